/- NodeQ, NodeMem: joined into one text. -/
import Derived.WalkKit
import Derived.WalkSpells
import Derived.WalkLawsBesides
import Derived.Lib.Hide
import Derived.Test.YtjgaelnonacdkaaMNodeSafe
import Derived.Test.YtjgaelnonacdkaaMApp
namespace Go.Proofs.Ytjgaelnonacdkaa
open Go.RowKit

structure RunQ (s0 : NodeS) (l0 : List NMsgD) (x : RunS) : Prop where
  node : NodeP x.s x.l
  me : x.s.me = s0.me
  round : s0.round ≤ x.s.round
  lr : s0.lr ≤ x.s.lr
  dec : 0 < s0.dec → x.s.dec = s0.dec
  sub : ∀ m ∈ x.l, m ∈ l0 ∨ m ∈ x.o
  out : ∀ m ∈ x.o, okMsg m = true ∧ m.f = s0.me ∧ m.r ≤ x.s.round ∧ (m.r = x.s.round → m.k ≤ x.s.step)
  uniq : x.o.Pairwise fun a b => ¬ (a.k = b.k ∧ a.r = b.r)

section
variable {s0 : NodeS} {l0 : List NMsgD} {x : RunS}
theorem q_same {s : NodeS} {l : List NMsgD} (h : NodeP s l) : RunQ s l ⟨s, l, []⟩ :=
  ⟨h, rfl, Int.le_refl _, Int.le_refl _, fun _ => rfl, fun m hm => .inl hm, fun m hm => (by cases hm), List.Pairwise.nil⟩
/-- a send, with the step that it brings -/
theorem q_send {k v p j : Int} (h : RunQ s0 l0 x) (hok : okMsg (msgOf x.s k v p) = true) (hk : k ≤ j) (hj : x.s.step ≤ j ∧ 1 ≤ j ∧ j ≤ 3) (hn : ∀ m ∈ x.o, m.r = x.s.round → m.k < k) : RunQ s0 l0 (setStep (sendR x k v p) j) where
  node := step_ok (send_ok h.node hok) hj.2
  me := h.me
  round := h.round
  lr := h.lr
  dec := h.dec
  sub := fun m hm => by
    rcases addM_sub hm with e | e
    · rcases h.sub m e with e | e
      · exact .inl e
      · exact .inr (List.mem_append.2 (.inl e))
    · exact .inr (List.mem_append.2 (.inr (by rw [e]; simp)))
  out := fun m hm => by
    rcases List.mem_append.1 hm with e | e
    · obtain ⟨a, b, c, d⟩ := h.out m e
      exact ⟨a, b, c, fun e => by have := d e; show m.k ≤ j; omega⟩
    · simp only [List.mem_singleton] at e
      subst e
      exact ⟨hok, h.me, Int.le_refl _, fun _ => hk⟩
  uniq := by
    show (x.o ++ [msgOf x.s k v p]).Pairwise _
    rw [List.pairwise_append]
    refine ⟨h.uniq, List.pairwise_singleton _ _, fun a ha b hb => ?_⟩
    simp only [List.mem_singleton] at hb
    subst hb
    intro ⟨e1, e2⟩
    have := hn a ha e2
    have e1 : a.k = k := e1
    omega
theorem q_atRound {r : Int} (h : RunQ s0 l0 x) (h1 : x.s.round < r) (h2 : r ≤ 11) : RunQ s0 l0 ⟨atRound x.s r, x.l, x.o⟩ where
  node := by
    have h := h.node
    exact ⟨h.me, by have := h.round; exact ⟨by show -1 ≤ r; omega, h2⟩, by show (1 : Int) ≤ 1 ∧ (1 : Int) ≤ 3; omega, h.lv, h.vv, h.dec, by have := h.lr; exact ⟨this.1, by show x.s.lr ≤ r; omega⟩, by have := h.vr; exact ⟨this.1, by show x.s.vr ≤ r; omega⟩, by have := h.polka; exact ⟨this.1, by show x.s.polka ≤ r; omega⟩, h.lock, h.valid, h.msgs, h.len⟩
  me := h.me
  round := by have := h.round; show s0.round ≤ r; omega
  lr := h.lr
  dec := h.dec
  sub := h.sub
  out := fun m hm => by
    obtain ⟨a, b, c, d⟩ := h.out m hm
    exact ⟨a, b, by show m.r ≤ r; omega, fun e => by have e : m.r = r := e; omega⟩
  uniq := h.uniq
theorem setStep_same (x : RunS) {j : Int} (h : x.s.step = j) : setStep x j = x := by
  subst h; rfl
theorem q_start {r : Int} (h : RunQ s0 l0 x) (h1 : x.s.round < r) (h2 : r ≤ 11) : RunQ s0 l0 (startR x r) := by
  have h0 := q_atRound h h1 h2
  have hn : ∀ m ∈ x.o, m.r = r → m.k < 1 := fun m hm e => by have := (h.out m hm).2.2.1; omega
  have g1 := h.node.me; have g2 := h.node.round; have g3 := h.node.vr; have g4 := h.node.vv; have g5 := h.node.valid
  have fin : ∀ v p, okMsg (msgOf (atRound x.s r) 1 v p) = true → RunQ s0 l0 (sendR ⟨atRound x.s r, x.l, x.o⟩ 1 v p) := fun v p hok => by
    have := q_send (j := 1) h0 hok (Int.le_refl _) (by show (1 : Int) ≤ 1 ∧ (1 : Int) ≤ 1 ∧ (1 : Int) ≤ 3; omega) hn
    rwa [setStep_same _ (by rfl)] at this
  unfold startR
  split
  · rename_i hp
    rw [beq_iff_eq] at hp
    split
    · refine fin _ _ ((okMsg_iff _).2 ?_)
      simp only [msgOf, atRound]
      refine ⟨by omega, by omega, by omega, fun _ => ⟨hp.symm, by omega, by omega⟩, fun h => absurd rfl h⟩
    · rename_i hv
      refine fin _ _ ((okMsg_iff _).2 ?_)
      simp only [beq_iff_eq] at hv
      simp only [msgOf, atRound]
      refine ⟨by omega, by omega, by omega, fun _ => ⟨hp.symm, by omega, by omega⟩, fun h => absurd rfl h⟩
  · exact h0
theorem q_prevote {v : Int} (h : RunQ s0 l0 x) (hs : x.s.step = 1) (hr : 0 ≤ x.s.round) (hv : 0 ≤ v ∧ v ≤ 20) : RunQ s0 l0 (prevoteR x v) :=
  q_send h (vote_ok h.node hr (.inl rfl) hv) (Int.le_refl _) (by omega) fun m hm e => by have := (h.out m hm).2.2.2 e; omega
theorem q_precommit {v : Int} (h : RunQ s0 l0 x) (hs : x.s.step = 2) (hr : 0 ≤ x.s.round) (hv : 0 ≤ v ∧ v ≤ 20) : RunQ s0 l0 (precommitR x v) :=
  q_send h (vote_ok h.node hr (.inr rfl) hv) (Int.le_refl _) (by omega) fun m hm e => by have := (h.out m hm).2.2.2 e; omega
theorem q_lock {v : Int} (h : RunQ s0 l0 x) (hr : 0 ≤ x.s.round) (hv : 1 ≤ v ∧ v ≤ 20) : RunQ s0 l0 (lockR x v) :=
  ⟨lock_ok h.node hr hv, h.me, h.round, (show s0.lr ≤ x.s.round from Int.le_trans h.lr h.node.lr.2), h.dec, h.sub, h.out, h.uniq⟩
theorem q_valid {v : Int} (h : RunQ s0 l0 x) (hr : 0 ≤ x.s.round) (hv : 1 ≤ v ∧ v ≤ 20) : RunQ s0 l0 (validR x v) :=
  ⟨valid_ok h.node hr hv, h.me, h.round, h.lr, h.dec, h.sub, h.out, h.uniq⟩
theorem q_polka {v : Int} (h : RunQ s0 l0 x) (hr : 0 ≤ x.s.round) (hv : 1 ≤ v ∧ v ≤ 20) : RunQ s0 l0 (polkaR x v) := by
  unfold polkaR
  split
  · rename_i hs
    rw [beq_iff_eq] at hs
    exact q_valid (q_precommit (q_lock h hr hv) hs hr (by omega)) hr hv
  · exact q_valid h hr hv
theorem q_rule {y : RunS} (h : RunQ s0 l0 x) (hy : ruleR x = some y) : RunQ s0 l0 y := by
  have hnode := h.node
  have hmsg := hnode.msgs; have hrd := hnode.round; have hst := hnode.step
  unfold ruleR at hy
  split at hy
  · cases hy
  rename_i hc
  simp only [Bool.or_eq_true, decide_eq_true_eq, beq_iff_eq, not_or] at hc
  have hr : 0 ≤ x.s.round := by omega
  split at hy
  · rename_i m hb
    simp only [Option.some.injEq] at hy
    subst hy
    obtain ⟨hm, hg⟩ := bestOf_some hb
    simp only [goodB, Bool.and_eq_true, beq_iff_eq] at hg
    have hv := (prop_val hmsg hm hg.1).1
    exact ⟨⟨hnode.me, hnode.round, hnode.step, hnode.lv, hnode.vv, by show 0 ≤ m.v ∧ m.v ≤ 20; omega, hnode.lr, hnode.vr, hnode.polka, hnode.lock, hnode.valid, hnode.msgs, hnode.len⟩, h.me, h.round, h.lr, fun hd => by have := h.dec hd; omega, h.sub, h.out, h.uniq⟩
  split at hy
  · rename_i r hk
    simp only [Option.some.injEq] at hy
    subst hy
    obtain ⟨h1, h2, h3, _⟩ := skipTo_some hk
    exact q_start h h1 h3
  split at hy
  · rename_i hs1
    rw [beq_iff_eq] at hs1
    unfold rule34 at hy
    split at hy
    · rename_i m h3
      simp only [Option.some.injEq] at hy
      subst hy
      obtain ⟨hm, hk1, _, _⟩ := propBy_some h3
      have hv := (prop_val hmsg hm hk1).1
      exact q_prevote h hs1 hr (by split <;> omega)
    · split at hy
      · rename_i m h4
        simp only [Option.some.injEq] at hy
        subst hy
        obtain ⟨hm, hk1, _, _⟩ := propBy_some h4
        have hv := (prop_val hmsg hm hk1).1
        exact q_prevote h hs1 hr (by split <;> omega)
      · cases hy
  · have h6 : rule6 x = some y → RunQ s0 l0 y := by
      intro h6
      unfold rule6 at h6
      split at h6
      · rename_i hs2
        simp only [Bool.and_eq_true, beq_iff_eq] at hs2
        simp only [Option.some.injEq] at h6
        subst h6
        exact q_precommit h hs2.1 hr (by decide)
      · cases h6
    unfold rule56 at hy
    split at hy
    · exact h6 hy
    · split at hy
      · rename_i m h5
        simp only [Option.some.injEq] at hy
        subst hy
        obtain ⟨hm, hk1, _, _⟩ := propBy_some h5
        exact q_polka h hr (prop_val hmsg hm hk1).1
      · exact h6 hy
theorem q_rest (h : RunQ s0 l0 x) : RunQ s0 l0 (restR x) := by
  have main : ∀ (k : Nat) (x : RunS), RunQ s0 l0 x → RunQ s0 l0 (restF k x) := by
    intro k
    induction k with
    | zero => exact fun x h => h
    | succ k ih =>
      intro x h
      unfold restF
      cases hr : ruleR x with
      | none => exact h
      | some y => exact ih y (q_rule h hr)
  exact main _ x h
end

/-! ### the calls on a node -/
def zeroNS : NodeS := ⟨0, 0, 0, 0, 0, 0, 0, 0, 0⟩
def startN (s : NodeS) (l : List NMsgD) : RunS × Bool :=
  if nodeB s l = true then (if (s.round == -1) = true then (restR (startR ⟨s, l, []⟩ 0), true) else (⟨s, l, []⟩, false)) else (⟨zeroNS, [], []⟩, false)
def getBad (l : List NMsgD) (m : NMsgD) : Bool := !(okMsg m) || hasB l m || decide (90 ≤ l.length)
def getN (s : NodeS) (l : List NMsgD) (m : NMsgD) : RunS × Bool :=
  if nodeB s l = true then (if getBad l m = true then (⟨s, l, []⟩, false) else (restR ⟨s, l ++ [m], []⟩, true)) else (⟨zeroNS, [], []⟩, false)
def timeBad (s : NodeS) (k : Int) : Bool := !(s.step == k) || s.round == -1 || decide (0 < s.dec) || (k == 3 && s.round == 11)
def timeR (x : RunS) (k : Int) : RunS := if (k == 1) = true then prevoteR x 0 else if (k == 2) = true then precommitR x 0 else startR x (x.s.round + 1)
def timeN (s : NodeS) (l : List NMsgD) (k : Int) : RunS × Bool :=
  if nodeB s l = true then (if timeBad s k = true then (⟨s, l, []⟩, false) else (restR (timeR ⟨s, l, []⟩ k), true)) else (⟨zeroNS, [], []⟩, false)
theorem got_ok {s : NodeS} {l : List NMsgD} {m : NMsgD} (h : NodeP s l) (hb : getBad l m = false) : NodeP s (l ++ [m]) := by
  simp only [getBad, Bool.or_eq_false_iff, Bool.not_eq_false', decide_eq_false_iff_not] at hb
  exact ⟨h.me, h.round, h.step, h.lv, h.vv, h.dec, h.lr, h.vr, h.polka, h.lock, h.valid, by rw [msgsOk_snoc, h.msgs, hb.1.1, hb.1.2]; rfl, by simp; omega⟩
theorem time_ok {s : NodeS} {l : List NMsgD} {k : Int} (h : NodeP s l) (hb : timeBad s k = false) : s.step = k ∧ 0 ≤ s.round ∧ s.dec = 0 ∧ (k = 3 → s.round < 11) := by
  simp only [timeBad, Bool.or_eq_false_iff, Bool.not_eq_false', decide_eq_false_iff_not, beq_iff_eq, beq_eq_false_iff_ne, Bool.and_eq_false_iff, ne_eq] at hb
  have := h.round; have := h.dec
  omega
/-- what a call on a node keeps to -/
structure CallQ (s0 : NodeS) (l0 : List NMsgD) (r : RunS × Bool) : Prop where
  run : RunQ s0 l0 r.1
  no : r.2 = false → r.1 = ⟨s0, l0, []⟩
theorem start_q {s : NodeS} {l : List NMsgD} (h : NodeP s l) : CallQ s l (startN s l) := by
  unfold startN
  rw [if_pos ((nodeB_iff s l).2 h)]
  split
  · rename_i hr
    rw [beq_iff_eq] at hr
    exact ⟨q_rest (q_start (q_same h) (by show s.round < 0; omega) (by decide)), fun e => by cases e⟩
  · exact ⟨q_same h, fun _ => rfl⟩
theorem get_q {s : NodeS} {l : List NMsgD} {m : NMsgD} (h : NodeP s l) : RunQ s (l ++ [m]) (getN s l m).1 ∧ ((getN s l m).2 = false → (getN s l m).1 = ⟨s, l, []⟩) := by
  unfold getN
  rw [if_pos ((nodeB_iff s l).2 h)]
  split
  · have hq := q_same h
    exact ⟨⟨hq.node, hq.me, hq.round, hq.lr, hq.dec, fun x hx => .inl ((hq.sub x hx).elim (fun e => List.mem_append.2 (.inl e)) (fun e => by cases e)), hq.out, hq.uniq⟩, fun _ => rfl⟩
  · rename_i hb
    exact ⟨q_rest (q_same (got_ok h (by simpa using hb))), fun e => by cases e⟩
theorem time_q {s : NodeS} {l : List NMsgD} {k : Int} (h : NodeP s l) : CallQ s l (timeN s l k) := by
  unfold timeN
  rw [if_pos ((nodeB_iff s l).2 h)]
  split
  · exact ⟨q_same h, fun _ => rfl⟩
  · rename_i hb
    obtain ⟨h1, h2, h3, h4⟩ := time_ok h (by simpa using hb)
    refine ⟨q_rest ?_, fun e => by cases e⟩
    have hs := h.step
    unfold timeR
    split
    · rename_i e; rw [beq_iff_eq] at e
      exact q_prevote (q_same h) (by show s.step = 1; omega) h2 (by decide)
    · rename_i e1
      split
      · rename_i e; rw [beq_iff_eq] at e
        exact q_precommit (q_same h) (by show s.step = 2; omega) h2 (by decide)
      · rename_i e2
        rw [beq_iff_eq] at e1 e2
        have := h.round
        exact q_start (q_same h) (by show s.round < s.round + 1; omega) (by show s.round + 1 ≤ 11; omega)
section
variable {me : Int} {M : NMsgD → Prop} {s : NodeS} {l : List NMsgD}
theorem inv_same (h : Inv me s l M) : InvR me M ⟨s, l, []⟩ :=
  h.more (fun m hm => .inl hm) (fun m hm => by rcases hm with e | e; exact h.ok m e; cases e) (fun m hm _ => by rcases hm with e | e; exact e; cases e)
theorem start_inv (h : Inv me s l M) : InvR me M (startN s l).1 := by
  unfold startN
  rw [if_pos ((nodeB_iff s l).2 h.node)]
  split
  · rename_i hr
    rw [beq_iff_eq] at hr
    exact inv_rest (inv_start (inv_same h) (by show s.round < 0; omega) (by decide))
  · exact inv_same h
theorem get_inv {m : NMsgD} (h : Inv me s l M) (hm : M m) : InvR me M (getN s l m).1 := by
  unfold getN
  rw [if_pos ((nodeB_iff s l).2 h.node)]
  split
  · exact inv_same h
  · rename_i hb
    have h2 : Inv me s (l ++ [m]) M := { node := got_ok h.node (by simpa using hb), who := h.who, sub := fun x hx => by rcases List.mem_append.1 hx with e | e; exact h.sub x e; rw [List.mem_singleton.1 e]; exact hm, ok := h.ok, late := h.late, one := h.one, com := h.com, lock := h.lock, vote := h.vote, dec := h.dec, early := h.early }
    exact inv_rest (inv_same h2)
theorem time_inv {k : Int} (h : Inv me s l M) : InvR me M (timeN s l k).1 := by
  unfold timeN
  rw [if_pos ((nodeB_iff s l).2 h.node)]
  split
  · exact inv_same h
  · rename_i hb
    obtain ⟨h1, h2, h3, h4⟩ := time_ok h.node (by simpa using hb)
    refine inv_rest ?_
    have hs := h.node.step
    unfold timeR
    split
    · rename_i e; rw [beq_iff_eq] at e
      exact inv_prevote (inv_same h) (by show s.step = 1; omega) h2 (by decide) (fun e => absurd rfl e)
    · rename_i e1
      split
      · rename_i e; rw [beq_iff_eq] at e
        exact inv_precommit0 (inv_same h) (by show s.step = 2; omega) h2
      · rename_i e2
        rw [beq_iff_eq] at e1 e2
        have := h.node.round
        exact inv_start (inv_same h) (by show s.round < s.round + 1; omega) (by show s.round + 1 ≤ 11; omega)
end
end Go.Proofs.Ytjgaelnonacdkaa
namespace Go.Proofs.Ytjgaelnonacdkaa
open Go.RowKit

/-- From a to b the blocks of P have stayed. -/
structure Keep (P : Nat → Prop) (a b : World) : Prop where
  os : b.os = a.os
  tape : b.tape = a.tape
  output : b.output = a.output
  size : a.heap.size ≤ b.heap.size
  block : ∀ k, P k → b.heap[k]? = a.heap[k]?
section
variable {P Q : Nat → Prop} {a b c w w' : World}
theorem Keep.refl (P : Nat → Prop) (w : World) : Keep P w w := ⟨rfl, rfl, rfl, Nat.le_refl _, fun _ _ => rfl⟩
theorem Keep.trans (h : Keep P a b) (k : Keep P b c) : Keep P a c :=
  ⟨k.os.trans h.os, k.tape.trans h.tape, k.output.trans h.output, Nat.le_trans h.size k.size, fun i hi => (k.block i hi).trans (h.block i hi)⟩
theorem Keep.mono (h : Keep P a b) (hq : ∀ q, Q q → P q) : Keep Q a b := ⟨h.os, h.tape, h.output, h.size, fun i hi => h.block i (hq i hi)⟩
theorem Keep.of_below {B : Nat} (h : Below B a b) (hp : ∀ q, P q → q < B) : Keep P a b := ⟨h.os, h.tape, h.output, h.size, fun i hi => h.block i (hp i hi)⟩
theorem Keep.drew (h : Keep P a b) : Keep P a b.drew := ⟨h.os, h.tape, h.output, h.size, h.block⟩
theorem Keep.drewN (h : Keep P a b) (n : Nat) : Keep P a (b.drewN n) := ⟨h.os, h.tape, h.output, h.size, h.block⟩
theorem Keep.alloc (h : Keep P a b) (hp : ∀ q, P q → q < b.heap.size) (o : Obj) : Keep P a (b.alloc o) :=
  h.trans (Keep.of_below ((Below.refl _ _).alloc (Nat.le_refl _) o) hp)
theorem Keep.setCell (h : Keep P a b) {p : Addr} (hp : ¬ P p.block) (u : Value) : Keep P a (b.setCell p u) := by
  refine ⟨h.os, h.tape, h.output, Nat.le_trans h.size ((Below.refl 0 b).setCell (Nat.zero_le _) (p := p) u).size, fun k hk => ?_⟩
  rw [Below.heap_setCell b p u k (fun e => hp (e ▸ hk))]; exact h.block k hk
theorem Keep.grown {row : Option Nat} (hg : w.grownBy w' row) (hp : ∀ q, P q → q < w.heap.size) (hr : ∀ q, P q → some q ≠ row) : Keep P w w' :=
  ⟨hg.os, hg.tape, hg.output, hg.size, fun k hk => hg.block k (hp k hk) (hr k hk)⟩
theorem Keep.cell (h : Keep P a b) {k o : Nat} (hk : P k) : b.cell? ⟨k, o, none⟩ = a.cell? ⟨k, o, none⟩ := World.cell?_of_block (w := a) (a := ⟨k, o, none⟩) (h.block k hk)
theorem Keep.frozen (h : Keep P a b) {k o : Nat} (hk : P k) : b.frozen? ⟨k, o, none⟩ = a.frozen? ⟨k, o, none⟩ := World.frozen?_of_block (w := a) (a := ⟨k, o, none⟩) (h.block k hk)
theorem Keep.blk {k : Nat} {t : TypeId} {cs : Array Value} (h : Keep P a b) (hk : P k) (hb : Blk a k t cs) : Blk b k t cs := (h.block k hk).trans hb
theorem Keep.below {B : Nat} (h : Keep P a b) (hp : ∀ q, q < B → P q) : Below B a b := ⟨h.os, h.tape, h.output, h.size, fun k hk => h.block k (hp k hk)⟩
end

structure Rows (w : World) (P : Nat → Prop) (A : Option Addr) (c : Nat) (B : Option Addr) (d : Nat) (x : RunS) : Prop where
  la : OwnL msgC 5 49 w 0 w.heap.size A x.l.length c x.l
  ob : OwnL msgC 5 49 w 0 w.heap.size B x.o.length d x.o
  sep : ∀ a b, A = some a → B = some b → a.block ≠ b.block
  pa : ∀ q a, P q → A = some a → a.block ≠ q
  pb : ∀ q b, P q → B = some b → b.block ≠ q
  lt : ∀ q, P q → q < w.heap.size
section
variable {P Q : Nat → Prop} {w w' : World} {A B : Option Addr} {c d : Nat} {x : RunS}
theorem Rows.mono (h : Rows w P A c B d x) (hq : ∀ q, Q q → P q) : Rows w Q A c B d x :=
  ⟨h.la, h.ob, h.sep, fun q a hp => h.pa q a (hq q hp), fun q a hp => h.pb q a (hq q hp), fun q hp => h.lt q (hq q hp)⟩
theorem Rows.state (h : Rows w P A c B d x) (s : NodeS) : Rows w P A c B d ⟨s, x.l, x.o⟩ := ⟨h.la, h.ob, h.sep, h.pa, h.pb, h.lt⟩
theorem Rows.below (h : Rows w P A c B d x) (hb : Below w.heap.size w w') : Rows w' P A c B d x :=
  ⟨(h.la.below hb (Nat.le_refl _)).wide (Nat.le_refl _) hb.size, (h.ob.below hb (Nat.le_refl _)).wide (Nat.le_refl _) hb.size, h.sep, h.pa, h.pb, fun q hp => Nat.lt_of_lt_of_le (h.lt q hp) hb.size⟩
theorem Rows.drewN (h : Rows w P A c B d x) (n : Nat) : Rows (w.drewN n) P A c B d x := h.below ⟨rfl, rfl, rfl, Nat.le_refl _, fun _ _ => rfl⟩
theorem Rows.drew (h : Rows w P A c B d x) : Rows w.drew P A c B d x := h.below ⟨rfl, rfl, rfl, Nat.le_refl _, fun _ _ => rfl⟩
theorem Rows.alloc (h : Rows w P A c B d x) (o : Obj) : Rows (w.alloc o) P A c B d x := h.below ((Below.refl _ _).alloc (Nat.le_refl _) o)
theorem OwnL.lt' {w : World} {n c : Nat} {l : List NMsgD} {A : Option Addr} (h : OwnL msgC 5 49 w 0 w.heap.size A n c l) : ∀ a, A = some a → a.block < w.heap.size := fun a e => by
  subst e
  exact (h.block a.block rfl).2
/-- a new block, from now on kept -/
theorem Rows.new (h : Rows w P A c B d x) (o : Obj) : Rows (w.alloc o) (fun q => P q ∨ q = w.heap.size) A c B d x := by
  have h2 := h.alloc o
  refine ⟨h2.la, h2.ob, h2.sep, fun q a hp e => ?_, fun q a hp e => ?_, fun q hp => ?_⟩
  · rcases hp with hp | rfl
    · exact h.pa q a hp e
    · have := OwnL.lt' h.la a e; omega
  · rcases hp with hp | rfl
    · exact h.pb q a hp e
    · have := OwnL.lt' h.ob a e; omega
  · rcases hp with hp | rfl
    · exact h2.lt q hp
    · simp
theorem Rows.keeps (h : Rows w P A c B d x) {p : Addr} (hp : P p.block) (u : Value) : Rows (w.setCell p u) P A c B d x := by
  have hs : (w.setCell p u).heap.size = w.heap.size := by simp
  refine ⟨?_, ?_, h.sep, h.pa, h.pb, fun q hq => by rw [hs]; exact h.lt q hq⟩
  · rw [hs]
    exact h.la.keep fun g _ _ e => Below.heap_setCell w p u g (by
      cases A with
      | none => cases e
      | some a => simp only [Value.ownBlock, Option.some.injEq] at e; rw [← e]; exact h.pa _ a hp rfl)
  · rw [hs]
    exact h.ob.keep fun g _ _ e => Below.heap_setCell w p u g (by
      cases B with
      | none => cases e
      | some a => simp only [Value.ownBlock, Option.some.injEq] at e; rw [← e]; exact h.pb _ a hp rfl)
theorem Rows.rl (h : Rows w P A c B d x) : RdL msgC 5 w w.heap.size A x.l.length c x.l := h.la.rd msgC_len
theorem Rows.ro (h : Rows w P A c B d x) : RdL msgC 5 w w.heap.size B x.o.length d x.o := h.ob.rd msgC_len
/-- a block of another kind is none of the rows -/
theorem Rows.other {g : Nat} {t : TypeId} {cs : Array Value} (h : Rows w P A c B d x) (hb : Blk w g t cs) (ht : t ≠ 49) : Rows w (fun q => P q ∨ q = g) A c B d x := by
  have key : ∀ (C : Option Addr) (n e : Nat) (l : List NMsgD), OwnL msgC 5 49 w 0 w.heap.size C n e l → ∀ a, C = some a → a.block ≠ g := by
    rintro C n e l ⟨_, ⟨_, h0, _⟩ | ⟨g', cur, e1, _, _, hc, _⟩⟩ a ea hg
    · rw [h0] at ea; cases ea
    · rw [e1] at ea
      simp only [Option.some.injEq] at ea
      subst ea
      subst hg
      have h1 : w.heap[g']? = some (.cells cur 49 (0, 0)) := hc
      have h2 : w.heap[g']? = some (.cells cs t (0, 0)) := hb
      rw [h1] at h2
      simp only [Option.some.injEq, Obj.cells.injEq] at h2
      exact ht h2.2.1.symm
  exact ⟨h.la, h.ob, h.sep, fun q a hp e => hp.elim (fun hp => h.pa q a hp e) (fun hp => by subst hp; exact key _ _ _ _ h.la a e), fun q a hp e => hp.elim (fun hp => h.pb q a hp e) (fun hp => by subst hp; exact key _ _ _ _ h.ob a e), fun q hp => hp.elim (h.lt q) (fun e => by subst e; exact hb.lt)⟩
/-- an append onto what was sent -/
theorem Rows.appO (h : Rows w P A c B d x) {v : Value} {m : NMsgD} (hown : w'.ownsRow 0 49 5 v (x.o.length + 1) (x.o.flatMap msgC ++ msgC m)) (hg : w.grownBy w' (Value.ownBlock (.slice B x.o.length d)))
    (hat : v.ownBlock = Value.ownBlock (.slice B x.o.length d) ∨ v.ownBlock = some w.heap.size) :
    ∃ B' d', v = .slice B' (x.o.length + 1) d' ∧ Rows w' P A c B' d' ⟨x.s, x.l, x.o ++ [m]⟩ ∧ Keep P w w' := by
  have e : x.o.flatMap msgC ++ msgC m = (x.o ++ [m]).flatMap msgC := by rw [List.flatMap_append]; simp
  rw [e] at hown
  obtain ⟨B', d', rfl, ho⟩ := OwnL.of_own (f := msgC) (l := x.o ++ [m]) (by simp) hown
  have hB : ∀ b', B' = some b' → (∃ b, B = some b ∧ b'.block = b.block) ∨ b'.block = w.heap.size := by
    intro b' eb
    subst eb
    rcases hat with h1 | h1
    · cases B with
      | none => cases h1
      | some b => simp only [Value.ownBlock, Option.some.injEq] at h1; exact .inl ⟨b, rfl, h1⟩
    · simp only [Value.ownBlock, Option.some.injEq] at h1; exact .inr h1
  refine ⟨B', d', rfl, ⟨(h.la.keep fun g _ hlt e => hg.block g hlt fun e2 => ?_).wide (Nat.le_refl _) hg.size, by simpa using ho, fun a b ea eb => ?_, h.pa, fun q b hq eb => ?_, fun q hq => Nat.lt_of_lt_of_le (h.lt q hq) hg.size⟩,
    Keep.grown hg h.lt fun q hq e => ?_⟩
  · cases A with
    | none => cases e
    | some a =>
      cases B with
      | none => cases e2
      | some b =>
        simp only [Value.ownBlock, Option.some.injEq] at e e2
        exact h.sep a b rfl rfl (by omega)
  · rcases hB b eb with ⟨b0, e0, e1⟩ | e1
    · rw [e1]; exact h.sep a b0 ea e0
    · have := OwnL.lt' h.la a ea; omega
  · rcases hB b eb with ⟨b0, e0, e1⟩ | e1
    · rw [e1]; exact h.pb q b0 hq e0
    · have := h.lt q hq; omega
  · cases B with
    | none => cases e
    | some b => simp only [Value.ownBlock, Option.some.injEq] at e; exact h.pb q b hq rfl e.symm
/-- an append onto the messages -/
theorem Rows.appL (h : Rows w P A c B d x) {v : Value} {m : NMsgD} (hown : w'.ownsRow 0 49 5 v (x.l.length + 1) (x.l.flatMap msgC ++ msgC m)) (hg : w.grownBy w' (Value.ownBlock (.slice A x.l.length c)))
    (hat : v.ownBlock = Value.ownBlock (.slice A x.l.length c) ∨ v.ownBlock = some w.heap.size) :
    ∃ A' c', v = .slice A' (x.l.length + 1) c' ∧ Rows w' P A' c' B d ⟨x.s, x.l ++ [m], x.o⟩ ∧ Keep P w w' := by
  have e : x.l.flatMap msgC ++ msgC m = (x.l ++ [m]).flatMap msgC := by rw [List.flatMap_append]; simp
  rw [e] at hown
  obtain ⟨A', c', rfl, ho⟩ := OwnL.of_own (f := msgC) (l := x.l ++ [m]) (by simp) hown
  have hA : ∀ b', A' = some b' → (∃ b, A = some b ∧ b'.block = b.block) ∨ b'.block = w.heap.size := by
    intro b' eb
    subst eb
    rcases hat with h1 | h1
    · cases A with
      | none => cases h1
      | some b => simp only [Value.ownBlock, Option.some.injEq] at h1; exact .inl ⟨b, rfl, h1⟩
    · simp only [Value.ownBlock, Option.some.injEq] at h1; exact .inr h1
  refine ⟨A', c', rfl, ⟨by simpa using ho, (h.ob.keep fun g _ hlt e => hg.block g hlt fun e2 => ?_).wide (Nat.le_refl _) hg.size, fun a b ea eb => ?_, fun q b hq eb => ?_, h.pb, fun q hq => Nat.lt_of_lt_of_le (h.lt q hq) hg.size⟩,
    Keep.grown hg h.lt fun q hq e => ?_⟩
  · cases B with
    | none => cases e
    | some a =>
      cases A with
      | none => cases e2
      | some b =>
        simp only [Value.ownBlock, Option.some.injEq] at e e2
        exact h.sep b a rfl rfl (by omega)
  · rcases hA a ea with ⟨b0, e0, e1⟩ | e1
    · rw [e1]; exact h.sep b0 b e0 eb
    · have := OwnL.lt' h.ob b eb; omega
  · rcases hA b eb with ⟨b0, e0, e1⟩ | e1
    · rw [e1]; exact h.pa q b0 hq e0
    · have := h.lt q hq; omega
  · cases A with
    | none => cases e
    | some b => simp only [Value.ownBlock, Option.some.injEq] at e; exact h.pa q b hq rfl e.symm
end

def actC (x : RunS) (A : Option Addr) (c : Nat) (B : Option Addr) (d : Nat) : Array Value :=
  #[.int .i64 x.s.me, .int .i64 x.s.round, .int .i64 x.s.step, .int .i64 x.s.lv, .int .i64 x.s.lr, .int .i64 x.s.vv, .int .i64 x.s.vr, .int .i64 x.s.polka, .int .i64 x.s.dec, .slice A x.l.length c, .slice B x.o.length d]
/-- the acting node in its block -/
structure ActAt (w : World) (P : Nat → Prop) (g : Nat) (A : Option Addr) (c : Nat) (B : Option Addr) (d : Nat) (x : RunS) : Prop where
  blk : Blk w g 125 (actC x A c B d)
  np : ¬ P g
  rows : Rows w (fun q => P q ∨ q = g) A c B d x
section
variable {P Q : Nat → Prop} {w w' : World} {g : Nat} {A B : Option Addr} {c d : Nat} {x : RunS}
theorem ActAt.cells (h : ActAt w P g A c B d x) : ∀ i, w.cell? ⟨g, i, none⟩ = #[.int .i64 x.s.me, .int .i64 x.s.round, .int .i64 x.s.step, .int .i64 x.s.lv, .int .i64 x.s.lr, .int .i64 x.s.vv, .int .i64 x.s.vr, .int .i64 x.s.polka, .int .i64 x.s.dec, .slice A x.l.length c, .slice B x.o.length d][i]? := h.blk.cell
theorem ActAt.free (h : ActAt w P g A c B d x) : ∀ i, w.frozen? ⟨g, i, none⟩ = false := h.blk.frozen
theorem ActAt.lt (h : ActAt w P g A c B d x) : g < w.heap.size := h.blk.lt
theorem ActAt.ltP (h : ActAt w P g A c B d x) : ∀ q, P q → q < w.heap.size := fun q hq => h.rows.lt q (.inl hq)
theorem ActAt.below (h : ActAt w P g A c B d x) (hb : Below w.heap.size w w') : ActAt w' P g A c B d x := ⟨h.blk.below hb h.lt, h.np, h.rows.below hb⟩
theorem ActAt.keep (h : ActAt w P g A c B d x) (hb : Below w.heap.size w w') : Keep P w w' := Keep.of_below hb h.ltP
theorem ActAt.alloc (h : ActAt w P g A c B d x) (o : Obj) : ActAt (w.alloc o) P g A c B d x := h.below ((Below.refl _ _).alloc (Nat.le_refl _) o)
theorem ActAt.drew (h : ActAt w P g A c B d x) : ActAt w.drew P g A c B d x := ⟨h.blk.drew, h.np, h.rows.drew⟩
theorem ActAt.drewN (h : ActAt w P g A c B d x) (n : Nat) : ActAt (w.drewN n) P g A c B d x := ⟨h.blk.drewN n, h.np, h.rows.drewN n⟩
theorem ActAt.mono (h : ActAt w P g A c B d x) (hq : ∀ q, Q q → P q) : ActAt w Q g A c B d x := ⟨h.blk, fun e => h.np (hq g e), h.rows.mono fun q e => e.elim (fun e => .inl (hq q e)) .inr⟩
/-- a new block, from now on kept -/
theorem ActAt.new (h : ActAt w P g A c B d x) (o : Obj) : ActAt (w.alloc o) (fun q => P q ∨ q = w.heap.size) g A c B d x :=
  ⟨h.blk.alloc o, fun e => e.elim h.np fun e => by have := h.lt; omega, (h.rows.new o).mono fun q e => e.elim (fun e => e.elim (fun e => .inl (.inl e)) .inr) fun e => .inl (.inr e)⟩
theorem ActAt.put (h : ActAt w P g A c B d x) (i : Nat) (u : Value) (s' : NodeS) (hs : (actC x A c B d).setIfInBounds i u = actC ⟨s', x.l, x.o⟩ A c B d) : ActAt (w.setCell ⟨g, i, none⟩ u) P g A c B d ⟨s', x.l, x.o⟩ :=
  ⟨hs ▸ h.blk.set_ i u, h.np, (h.rows.keeps (.inr rfl) u).state s'⟩
theorem ActAt.puts (h : ActAt w P g A c B d x) (i : Nat) (u : Value) : Keep P w (w.setCell ⟨g, i, none⟩ u) := (Keep.refl P w).setCell h.np u
/-- a store into a block that is kept -/
theorem ActAt.far (h : ActAt w P g A c B d x) {p : Addr} (hp : P p.block) (u : Value) : ActAt (w.setCell p u) P g A c B d x :=
  ⟨h.blk.far (fun e => h.np (e ▸ hp)) u, h.np, h.rows.keeps (.inl hp) u⟩
end
/-- what a method of an acting node leaves -/
def ActOut (P : Nat → Prop) (g : Nat) (y : RunS) (v : Value) (w : World) (e : Ending) (w' : World) : Prop :=
  ∃ A c B d, e = .returned v ∧ ActAt w' P g A c B d y ∧ Keep P w w'
end Go.Proofs.Ytjgaelnonacdkaa
