/- What nodes and nets do, in plain Lean; one value at most is decided. -/
import Derived.WalkKit
import Derived.WalkSpells
import Derived.WalkLawsBesides
import Derived.Lib.Hide
import Derived.Test.YtjgaelnonacdkaaG10
import Derived.Test.YtjgaelnonacdkaaMNetFam
namespace Go.Proofs.Ytjgaelnonacdkaa
open Go.RowKit

theorem hasB_iff (l : List NMsgD) (m : NMsgD) : hasB l m = true ↔ m ∈ l := by
  unfold hasB
  rw [List.any_eq_true]
  constructor
  · rintro ⟨x, hx, he⟩; rw [msgEq_iff] at he; rw [he]; exact hx
  · intro h; exact ⟨m, h, (msgEq_iff _ _).2 rfl⟩
theorem hasI_iff (l : List Int) (x : Int) : hasI l x = true ↔ x ∈ l := by
  unfold hasI
  rw [List.any_eq_true]
  constructor
  · rintro ⟨y, hy, he⟩; rw [beq_iff_eq] at he; rw [he]; exact hy
  · intro h; exact ⟨x, h, by simp⟩

/-! ### three senders of four -/
def Quor (M : NMsgD → Prop) (k r v : Int) : Prop := ∃ a b c : Int, a ≠ b ∧ b ≠ c ∧ a ≠ c ∧ M ⟨k, r, v, -1, a⟩ ∧ M ⟨k, r, v, -1, b⟩ ∧ M ⟨k, r, v, -1, c⟩
theorem Quor.mono {M M' : NMsgD → Prop} {k r v : Int} (h : Quor M k r v) (hm : ∀ m, M m → M' m) : Quor M' k r v := by
  obtain ⟨a, b, c, h1, h2, h3, h4, h5, h6⟩ := h
  exact ⟨a, b, c, h1, h2, h3, hm _ h4, hm _ h5, hm _ h6⟩
theorem froms_nodup (l : List NMsgD) (k r v : Int) : ∀ fs : List Int, fs.Nodup → (l.foldl (cntStep k r v) fs).Nodup := by
  induction l with
  | nil => exact fun fs h => h
  | cons m l ih =>
    intro fs h
    rw [List.foldl_cons]
    refine ih _ ?_
    unfold cntStep
    split
    · rename_i hc
      simp only [Bool.and_eq_true, Bool.not_eq_true'] at hc
      rw [List.nodup_append]
      refine ⟨h, by simp, fun a ha b hb => ?_⟩
      simp only [List.mem_singleton] at hb
      subst hb
      intro e
      subst e
      have := (hasI_iff fs _).2 ha
      rw [this] at hc
      exact absurd hc.2 (by simp)
    · exact h
theorem fromsQ_mem (l : List NMsgD) (k r v f : Int) : ∀ fs : List Int, f ∈ l.foldl (cntStep k r v) fs → f ∈ fs ∨ ∃ m ∈ l, m.k = k ∧ m.r = r ∧ m.v = v ∧ m.f = f := by
  induction l with
  | nil => exact fun fs h => .inl h
  | cons m l ih =>
    intro fs h
    rw [List.foldl_cons] at h
    rcases ih _ h with h1 | ⟨x, hx, h1⟩
    · unfold cntStep at h1
      split at h1
      · rename_i hc
        simp only [Bool.and_eq_true, beq_iff_eq] at hc
        rcases List.mem_append.1 h1 with h2 | h2
        · exact .inl h2
        · simp only [List.mem_singleton] at h2
          exact .inr ⟨m, by simp, hc.1.1.1, hc.1.1.2, hc.1.2, h2.symm⟩
      · exact .inl h1
    · exact .inr ⟨x, by simp [hx], h1⟩
theorem three_of {fs : List Int} (h : fs.Nodup) (hl : 3 ≤ fs.length) : ∃ a b c, a ≠ b ∧ b ≠ c ∧ a ≠ c ∧ a ∈ fs ∧ b ∈ fs ∧ c ∈ fs := by
  match fs, h, hl with
  | a :: b :: c :: _, h, _ =>
    simp only [List.nodup_cons, List.mem_cons, not_or] at h
    exact ⟨a, b, c, h.1.1, h.2.1.1, h.1.2.1, by simp, by simp, by simp⟩
theorem quor_of {l : List NMsgD} (hl : ∀ m ∈ l, okMsg m = true) {k r v : Int} (hk : k ≠ 1) (h : 3 ≤ countN l k r v) : Quor (· ∈ l) k r v := by
  have h1 : 3 ≤ (froms l k r v).length := by unfold countN at h; omega
  obtain ⟨a, b, c, h2, h3, h4, ha, hb, hc⟩ := three_of (froms_nodup l k r v [] List.nodup_nil) h1
  have hm : ∀ f, f ∈ froms l k r v → (⟨k, r, v, -1, f⟩ : NMsgD) ∈ l := by
    intro f hf
    rcases fromsQ_mem l k r v f [] hf with h | ⟨m, hm, e1, e2, e3, e4⟩
    · cases h
    · have := ((okMsg_iff m).1 (hl m hm)).2.2.2.2 (by omega)
      obtain ⟨mk, mr, mv, mp, mf⟩ := m
      simp only at e1 e2 e3 e4 this
      obtain ⟨_, rfl⟩ := this
      subst e1 e2 e3 e4
      exact hm
  exact ⟨a, b, c, h2, h3, h4, hm a ha, hm b hb, hm c hc⟩
/-- two of the three that do as they should -/
theorem quor_two {M : NMsgD → Prop} (hM : ∀ m, M m → okMsg m = true) {k r v : Int} (h : Quor M k r v) :
    (M ⟨k, r, v, -1, 1⟩ ∧ M ⟨k, r, v, -1, 2⟩) ∨ (M ⟨k, r, v, -1, 1⟩ ∧ M ⟨k, r, v, -1, 3⟩) ∨ (M ⟨k, r, v, -1, 2⟩ ∧ M ⟨k, r, v, -1, 3⟩) := by
  obtain ⟨a, b, c, h1, h2, h3, ha, hb, hc⟩ := h
  have fa := ((okMsg_iff _).1 (hM _ ha)).2.2.1
  have fb := ((okMsg_iff _).1 (hM _ hb)).2.2.1
  have fc := ((okMsg_iff _).1 (hM _ hc)).2.2.1
  simp only at fa fb fc
  have ea : a = 1 ∨ a = 2 ∨ a = 3 ∨ a = 4 := by omega
  have eb : b = 1 ∨ b = 2 ∨ b = 3 ∨ b = 4 := by omega
  have ec : c = 1 ∨ c = 2 ∨ c = 3 ∨ c = 4 := by omega
  rcases ea with rfl | rfl | rfl | rfl <;> rcases eb with rfl | rfl | rfl | rfl <;> rcases ec with rfl | rfl | rfl | rfl <;> first | (exfalso; omega) | exact .inl ⟨by assumption, by assumption⟩ | exact .inr (.inl ⟨by assumption, by assumption⟩) | exact .inr (.inr ⟨by assumption, by assumption⟩)

/-- two sets of three share one that does as it should -/
theorem quor_meet {M : NMsgD → Prop} (hM : ∀ m, M m → okMsg m = true) {k r v k' r' v' : Int} (h : Quor M k r v) (h' : Quor M k' r' v') :
    ∃ f : Int, 1 ≤ f ∧ f ≤ 3 ∧ M ⟨k, r, v, -1, f⟩ ∧ M ⟨k', r', v', -1, f⟩ := by
  rcases quor_two hM h with ⟨a, b⟩ | ⟨a, b⟩ | ⟨a, b⟩ <;> rcases quor_two hM h' with ⟨c, d⟩ | ⟨c, d⟩ | ⟨c, d⟩
  · exact ⟨1, by decide, by decide, a, c⟩
  · exact ⟨1, by decide, by decide, a, c⟩
  · exact ⟨2, by decide, by decide, b, c⟩
  · exact ⟨1, by decide, by decide, a, c⟩
  · exact ⟨1, by decide, by decide, a, c⟩
  · exact ⟨3, by decide, by decide, b, d⟩
  · exact ⟨2, by decide, by decide, a, d⟩
  · exact ⟨3, by decide, by decide, b, d⟩
  · exact ⟨2, by decide, by decide, a, c⟩

/-! ### what a node that does as it should keeps to -/
structure Inv (me : Int) (s : NodeS) (l : List NMsgD) (M : NMsgD → Prop) : Prop where
  node : NodeP s l
  who : s.me = me
  sub : ∀ m ∈ l, M m
  ok : ∀ m, M m → okMsg m = true
  late : ∀ m, M m → m.f = me → m.r ≤ s.round ∧ (m.r = s.round → m.k ≤ s.step)
  one : ∀ m m', M m → M m' → m.f = me → m'.f = me → m.k = m'.k → m.r = m'.r → m = m'
  com : ∀ m, M m → m.f = me → m.k = 3 → m.v ≠ 0 → Quor M 2 m.r m.v ∧ m.r ≤ s.lr
  lock : s.lv ≠ 0 → Quor M 2 s.lr s.lv
  vote : ∀ p c, M p → M c → p.f = me → c.f = me → p.k = 2 → c.k = 3 → p.v ≠ 0 → c.v ≠ 0 → c.r < p.r → ∃ q, c.r ≤ q ∧ q < p.r ∧ Quor M 2 q p.v
  dec : 0 < s.dec → ∃ r, Quor M 3 r s.dec
  early : s.step ≤ 2 → 0 ≤ s.round → s.lr < s.round

/-- others' messages turn nothing -/
theorem Inv.more {me : Int} {s : NodeS} {l : List NMsgD} {M M' : NMsgD → Prop} (h : Inv me s l M) (hm : ∀ m, M m → M' m) (hok : ∀ m, M' m → okMsg m = true) (ho : ∀ m, M' m → m.f = me → M m) : Inv me s l M' where
  node := h.node
  who := h.who
  sub := fun m hml => hm m (h.sub m hml)
  ok := hok
  late := fun m h1 h2 => h.late m (ho m h1 h2) h2
  one := fun m m' h1 h2 h3 h4 => h.one m m' (ho m h1 h3) (ho m' h2 h4) h3 h4
  com := fun m h1 h2 h3 h4 => by obtain ⟨a, b⟩ := h.com m (ho m h1 h2) h2 h3 h4; exact ⟨a.mono hm, b⟩
  lock := fun h1 => (h.lock h1).mono hm
  vote := fun p c h1 h2 h3 h4 h5 h6 h7 h8 h9 => by
    obtain ⟨q, a, b, d⟩ := h.vote p c (ho p h1 h3) (ho c h2 h4) h3 h4 h5 h6 h7 h8 h9
    exact ⟨q, a, b, d.mono hm⟩
  dec := fun h1 => by obtain ⟨r, a⟩ := h.dec h1; exact ⟨r, a.mono hm⟩
  early := h.early

/-- a run's messages: those that were there, and what it has sent -/
def Said (M : NMsgD → Prop) (o : List NMsgD) (m : NMsgD) : Prop := M m ∨ m ∈ o
theorem said_snoc {M : NMsgD → Prop} {o : List NMsgD} {m x : NMsgD} : Said M (o ++ [m]) x ↔ Said M o x ∨ x = m := by
  unfold Said
  rw [List.mem_append, List.mem_singleton, or_assoc]
theorem addM_sub {l : List NMsgD} {m x : NMsgD} (h : x ∈ addM l m) : x ∈ l ∨ x = m := by
  unfold addM at h
  split at h
  · rcases List.mem_append.1 h with h | h
    · exact .inl h
    · exact .inr (by simpa using h)
  · exact .inl h
def InvR (me : Int) (M : NMsgD → Prop) (x : RunS) : Prop := Inv me x.s x.l (Said M x.o)

section
variable {me : Int} {M : NMsgD → Prop} {x : RunS}
/-- a proposal, or none, at the start of a round -/
theorem inv_round {r : Int} (h : InvR me M x) (h1 : x.s.round < r) (h2 : r ≤ 11) : InvR me M ⟨atRound x.s r, x.l, x.o⟩ where
  node := by
    have h := h.node
    exact ⟨h.me, by have := h.round; exact ⟨by show -1 ≤ r; omega, h2⟩, by show (1 : Int) ≤ 1 ∧ (1 : Int) ≤ 3; omega, h.lv, h.vv, h.dec, by have := h.lr; exact ⟨this.1, by show x.s.lr ≤ r; omega⟩, by have := h.vr; exact ⟨this.1, by show x.s.vr ≤ r; omega⟩, by have := h.polka; exact ⟨this.1, by show x.s.polka ≤ r; omega⟩, h.lock, h.valid, h.msgs, h.len⟩
  who := h.who
  sub := h.sub
  ok := h.ok
  late := fun m a b => by have := h.late m a b; refine ⟨by show m.r ≤ r; omega, fun e => ?_⟩; have e : m.r = r := e; omega
  one := h.one
  com := h.com
  lock := h.lock
  vote := h.vote
  dec := h.dec
  early := fun _ _ => by have := h.node.lr; show x.s.lr < r; omega
theorem inv_prop {v p : Int} (h : InvR me M x) (hs : x.s.step = 1) (hn : ∀ m, Said M x.o m → m.f = me → m.r < x.s.round) (hok : okMsg (msgOf x.s 1 v p) = true) : InvR me M (sendR x 1 v p) where
  node := send_ok h.node hok
  who := h.who
  sub := fun m hm => (addM_sub hm).elim (fun e => said_snoc.2 (.inl (h.sub m e))) (fun e => said_snoc.2 (.inr e))
  ok := fun m hm => (said_snoc.1 hm).elim (fun e => h.ok m e) (fun e => by rw [e]; exact hok)
  late := fun m hm hf => by
    rcases said_snoc.1 hm with e | rfl
    · exact h.late m e hf
    · exact ⟨Int.le_refl _, fun _ => by show 1 ≤ x.s.step; omega⟩
  one := fun m m' hm hm' hf hf' hk hr => by
    rcases said_snoc.1 hm with e | rfl <;> rcases said_snoc.1 hm' with e' | rfl
    · exact h.one m m' e e' hf hf' hk hr
    · have := hn m e hf; simp only [msgOf] at hr; omega
    · have := hn m' e' hf'; simp only [msgOf] at hr; omega
    · rfl
  com := fun m hm hf hk hv => by
    rcases said_snoc.1 hm with e | rfl
    · obtain ⟨a, b⟩ := h.com m e hf hk hv; exact ⟨a.mono fun y hy => said_snoc.2 (.inl hy), b⟩
    · simp [msgOf] at hk
  lock := fun a => (h.lock a).mono fun y hy => said_snoc.2 (.inl hy)
  vote := fun p c hp hc fp fc kp kc vp vc hr => by
    rcases said_snoc.1 hp with e | rfl
    · rcases said_snoc.1 hc with e' | rfl
      · obtain ⟨q, a, b, d⟩ := h.vote p c e e' fp fc kp kc vp vc hr
        exact ⟨q, a, b, d.mono fun y hy => said_snoc.2 (.inl hy)⟩
      · simp [msgOf] at kc
    · simp [msgOf] at kp
  dec := fun a => by obtain ⟨r, b⟩ := h.dec a; exact ⟨r, b.mono fun y hy => said_snoc.2 (.inl hy)⟩
  early := h.early
theorem inv_start {r : Int} (h : InvR me M x) (h1 : x.s.round < r) (h2 : r ≤ 11) : InvR me M (startR x r) := by
  have h0 := inv_round h h1 h2
  have hn : ∀ m, Said M x.o m → m.f = me → m.r < (atRound x.s r).round := fun m a b => by have := (h.late m a b).1; show m.r < r; omega
  have g1 := h.node.me; have g2 := h.node.round; have g3 := h.node.vr; have g4 := h.node.vv; have g5 := h.node.valid
  unfold startR
  split
  · rename_i hp
    rw [beq_iff_eq] at hp
    split
    · refine inv_prop (x := ⟨atRound x.s r, x.l, x.o⟩) h0 rfl hn ((okMsg_iff _).2 ?_)
      simp only [msgOf, atRound]
      refine ⟨by omega, by omega, by omega, fun _ => ⟨hp.symm, by omega, by omega⟩, fun h => absurd rfl h⟩
    · rename_i hv
      refine inv_prop (x := ⟨atRound x.s r, x.l, x.o⟩) h0 rfl hn ((okMsg_iff _).2 ?_)
      simp only [beq_iff_eq] at hv
      simp only [msgOf, atRound]
      refine ⟨by omega, by omega, by omega, fun _ => ⟨hp.symm, by omega, by omega⟩, fun h => absurd rfl h⟩
  · exact h0
/-- a prevote of a value that may be voted for, or of none -/
theorem inv_prevote {v : Int} (h : InvR me M x) (hs : x.s.step = 1) (hr : 0 ≤ x.s.round) (hv : 0 ≤ v ∧ v ≤ 20)
    (hj : v ≠ 0 → x.s.lr = -1 ∨ x.s.lv = v ∨ ∃ q, x.s.lr ≤ q ∧ q < x.s.round ∧ Quor (Said M x.o) 2 q v) : InvR me M (prevoteR x v) := by
  have hok := vote_ok h.node hr (.inl rfl) hv
  have hmon : ∀ y, Said M x.o y → Said M (x.o ++ [msgOf x.s 2 v (-1)]) y := fun y hy => said_snoc.2 (.inl hy)
  exact {
    node := prevote_ok h.node hr hv
    who := h.who
    sub := fun m hm => (addM_sub hm).elim (fun e => hmon _ (h.sub m e)) (fun e => said_snoc.2 (.inr e))
    ok := fun m hm => (said_snoc.1 hm).elim (fun e => h.ok m e) (fun e => by rw [e]; exact hok)
    late := fun m hm hf => by
      rcases said_snoc.1 hm with e | rfl
      · have := h.late m e hf
        exact ⟨this.1, fun e => by have := this.2 e; show m.k ≤ 2; omega⟩
      · exact ⟨Int.le_refl _, fun _ => Int.le_refl _⟩
    one := fun m m' hm hm' hf hf' hk hr => by
      rcases said_snoc.1 hm with e | rfl <;> rcases said_snoc.1 hm' with e' | rfl
      · exact h.one m m' e e' hf hf' hk hr
      · have := (h.late m e hf).2 hr; have hk : m.k = 2 := hk; omega
      · have := (h.late m' e' hf').2 hr.symm; have hk : m'.k = 2 := hk.symm; omega
      · rfl
    com := fun m hm hf hk hv => by
      rcases said_snoc.1 hm with e | rfl
      · obtain ⟨a, b⟩ := h.com m e hf hk hv; exact ⟨a.mono hmon, b⟩
      · simp [msgOf] at hk
    lock := fun a => (h.lock a).mono hmon
    vote := fun p c hp hc fp fc kp kc vp vc hrr => by
      rcases said_snoc.1 hc with e' | rfl
      · rcases said_snoc.1 hp with e | rfl
        · obtain ⟨q, a, b, d⟩ := h.vote p c e e' fp fc kp kc vp vc hrr
          exact ⟨q, a, b, d.mono hmon⟩
        · have hc1 := (h.com c e' fc kc vc).2
          have hc0 := ((okMsg_iff c).1 (h.ok c e')).2.1.1
          have hea := h.early (by omega) hr
          have vp : v ≠ 0 := vp
          show ∃ q, c.r ≤ q ∧ q < x.s.round ∧ Quor _ 2 q v
          rcases hj vp with j | j | ⟨q, j1, j2, j3⟩
          · omega
          · have := h.lock (by rw [j]; exact vp)
            rw [j] at this
            exact ⟨x.s.lr, hc1, hea, this.mono hmon⟩
          · exact ⟨q, by omega, j2, j3.mono hmon⟩
      · simp [msgOf] at kc
    dec := fun a => by obtain ⟨r, b⟩ := h.dec a; exact ⟨r, b.mono hmon⟩
    early := fun _ _ => h.early (by omega) hr }
/-- a precommit of none -/
theorem inv_precommit0 (h : InvR me M x) (hs : x.s.step = 2) (hr : 0 ≤ x.s.round) : InvR me M (precommitR x 0) := by
  have hok := vote_ok (v := 0) h.node hr (.inr rfl) (by decide)
  have hmon : ∀ y, Said M x.o y → Said M (x.o ++ [msgOf x.s 3 0 (-1)]) y := fun y hy => said_snoc.2 (.inl hy)
  exact {
    node := precommit_ok h.node hr (by decide)
    who := h.who
    sub := fun m hm => (addM_sub hm).elim (fun e => hmon _ (h.sub m e)) (fun e => said_snoc.2 (.inr e))
    ok := fun m hm => (said_snoc.1 hm).elim (fun e => h.ok m e) (fun e => by rw [e]; exact hok)
    late := fun m hm hf => by
      rcases said_snoc.1 hm with e | rfl
      · have := h.late m e hf
        exact ⟨this.1, fun e => by have := this.2 e; show m.k ≤ 3; omega⟩
      · exact ⟨Int.le_refl _, fun _ => Int.le_refl _⟩
    one := fun m m' hm hm' hf hf' hk hr => by
      rcases said_snoc.1 hm with e | rfl <;> rcases said_snoc.1 hm' with e' | rfl
      · exact h.one m m' e e' hf hf' hk hr
      · have := (h.late m e hf).2 hr; have hk : m.k = 3 := hk; omega
      · have := (h.late m' e' hf').2 hr.symm; have hk : m'.k = 3 := hk.symm; omega
      · rfl
    com := fun m hm hf hk hv => by
      rcases said_snoc.1 hm with e | rfl
      · obtain ⟨a, b⟩ := h.com m e hf hk hv; exact ⟨a.mono hmon, b⟩
      · exact absurd rfl hv
    lock := fun a => (h.lock a).mono hmon
    vote := fun p c hp hc fp fc kp kc vp vc hrr => by
      rcases said_snoc.1 hc with e' | rfl
      · rcases said_snoc.1 hp with e | rfl
        · obtain ⟨q, a, b, d⟩ := h.vote p c e e' fp fc kp kc vp vc hrr
          exact ⟨q, a, b, d.mono hmon⟩
        · simp [msgOf] at kp
      · exact absurd rfl vc
    dec := fun a => by obtain ⟨r, b⟩ := h.dec a; exact ⟨r, b.mono hmon⟩
    early := fun a => by have a : (3 : Int) ≤ 2 := a; omega }
/-- a lock, and the precommit that goes with it -/
theorem inv_lock {v : Int} (h : InvR me M x) (hs : x.s.step = 2) (hr : 0 ≤ x.s.round) (hv : 1 ≤ v ∧ v ≤ 20) (hq : Quor (Said M x.o) 2 x.s.round v) : InvR me M (precommitR (lockR x v) v) := by
  have hok := vote_ok (v := v) h.node hr (.inr rfl) (by omega)
  have hmon : ∀ y, Said M x.o y → Said M (x.o ++ [msgOf x.s 3 v (-1)]) y := fun y hy => said_snoc.2 (.inl hy)
  exact {
    node := precommit_ok (lock_ok h.node hr hv) hr (by omega)
    who := h.who
    sub := fun m hm => (addM_sub hm).elim (fun e => hmon _ (h.sub m e)) (fun e => said_snoc.2 (.inr e))
    ok := fun m hm => (said_snoc.1 hm).elim (fun e => h.ok m e) (fun e => by rw [e]; exact hok)
    late := fun m hm hf => by
      rcases said_snoc.1 hm with e | rfl
      · have := h.late m e hf
        exact ⟨this.1, fun e => by have := this.2 e; show m.k ≤ 3; omega⟩
      · exact ⟨Int.le_refl _, fun _ => Int.le_refl _⟩
    one := fun m m' hm hm' hf hf' hk hr => by
      rcases said_snoc.1 hm with e | rfl <;> rcases said_snoc.1 hm' with e' | rfl
      · exact h.one m m' e e' hf hf' hk hr
      · have := (h.late m e hf).2 hr; have hk : m.k = 3 := hk; omega
      · have := (h.late m' e' hf').2 hr.symm; have hk : m'.k = 3 := hk.symm; omega
      · rfl
    com := fun m hm hf hk hv => by
      rcases said_snoc.1 hm with e | rfl
      · obtain ⟨a, b⟩ := h.com m e hf hk hv
        exact ⟨a.mono hmon, (h.late m e hf).1⟩
      · exact ⟨hq.mono hmon, Int.le_refl _⟩
    lock := fun _ => hq.mono hmon
    vote := fun p c hp hc fp fc kp kc vp vc hrr => by
      rcases said_snoc.1 hp with e | rfl
      · rcases said_snoc.1 hc with e' | rfl
        · obtain ⟨q, a, b, d⟩ := h.vote p c e e' fp fc kp kc vp vc hrr
          exact ⟨q, a, b, d.mono hmon⟩
        · have := (h.late p e fp).1
          have hrr : x.s.round < p.r := hrr
          omega
      · simp [msgOf] at kp
    dec := fun a => by obtain ⟨r, b⟩ := h.dec a; exact ⟨r, b.mono hmon⟩
    early := fun a => by have a : (3 : Int) ≤ 2 := a; omega }
theorem inv_valid {v : Int} (h : InvR me M x) (hr : 0 ≤ x.s.round) (hv : 1 ≤ v ∧ v ≤ 20) : InvR me M (validR x v) :=
  { node := valid_ok h.node hr hv, who := h.who, sub := h.sub, ok := h.ok, late := h.late, one := h.one, com := h.com, lock := h.lock, vote := h.vote, dec := h.dec, early := h.early }
theorem inv_dec {v r : Int} (h : InvR me M x) (hv : 1 ≤ v ∧ v ≤ 20) (hq : Quor (Said M x.o) 3 r v) : InvR me M ⟨withDec x.s v, x.l, x.o⟩ :=
  { node := by have h := h.node; exact ⟨h.me, h.round, h.step, h.lv, h.vv, by show 0 ≤ v ∧ v ≤ 20; omega, h.lr, h.vr, h.polka, h.lock, h.valid, h.msgs, h.len⟩
    who := h.who, sub := h.sub, ok := h.ok, late := h.late, one := h.one, com := h.com, lock := h.lock, vote := h.vote, dec := fun _ => ⟨r, hq⟩, early := h.early }
theorem inv_quor {k r v : Int} (h : InvR me M x) (hk : k ≠ 1) (hc : 3 ≤ countN x.l k r v) : Quor (Said M x.o) k r v :=
  (quor_of (fun _ hm => msgsOk_mem h.node.msgs hm) hk hc).mono h.sub
theorem inv_rule {y : RunS} (h : InvR me M x) (hy : ruleR x = some y) : InvR me M y := by
  have hnode := h.node
  have hmsg := hnode.msgs; have hrd := hnode.round; have hst := hnode.step
  unfold ruleR at hy
  split at hy
  · cases hy
  rename_i hc
  simp only [Bool.or_eq_true, decide_eq_true_eq, beq_iff_eq, not_or] at hc
  have hr : 0 ≤ x.s.round := by omega
  cases hb : bestOf x.l x.l with
  | some m =>
    rw [hb] at hy
    simp only [Option.some.injEq] at hy
    subst hy
    obtain ⟨hm, hg⟩ := bestOf_some hb
    simp only [goodB, Bool.and_eq_true, beq_iff_eq, decide_eq_true_eq] at hg
    exact inv_dec h (prop_val hmsg hm hg.1).1 (inv_quor h (by decide) hg.2)
  | none =>
    rw [hb] at hy
    simp only at hy
    cases hk : skipTo x.l x.s.round with
    | some r =>
      rw [hk] at hy
      simp only [Option.some.injEq] at hy
      subst hy
      obtain ⟨h1, h2, h3, _⟩ := skipTo_some hk
      exact inv_start h h1 h3
    | none =>
      rw [hk] at hy
      simp only at hy
      split at hy
      · rename_i hs1
        rw [beq_iff_eq] at hs1
        unfold rule34 at hy
        cases h3 : propBy x P3 with
        | some m =>
          rw [h3] at hy
          simp only [Option.some.injEq] at hy
          subst hy
          obtain ⟨hm, hk1, _, _⟩ := propBy_some h3
          have hv := (prop_val hmsg hm hk1).1
          refine inv_prevote h hs1 hr (by split <;> omega) fun hne => ?_
          split at hne
          · rename_i hcond
            rw [if_pos hcond]
            simp only [Bool.or_eq_true, beq_iff_eq] at hcond
            rcases hcond with e | e
            · exact .inl e
            · exact .inr (.inl e)
          · exact absurd rfl hne
        | none =>
          rw [h3] at hy
          simp only at hy
          cases h4 : propBy x (P4 x.l) with
          | some m =>
            rw [h4] at hy
            simp only [Option.some.injEq] at hy
            subst hy
            obtain ⟨hm, hk1, hr1, hp4⟩ := propBy_some h4
            have hv := prop_val hmsg hm hk1
            simp only [P4, Bool.and_eq_true, decide_eq_true_eq] at hp4
            refine inv_prevote h hs1 hr (by split <;> omega) fun hne => ?_
            split at hne
            · rename_i hcond
              rw [if_pos hcond]
              simp only [Bool.or_eq_true, beq_iff_eq, decide_eq_true_eq] at hcond
              rcases hcond with e | e
              · exact .inr (.inr ⟨m.p, e, by omega, inv_quor h (by decide) hp4.2⟩)
              · exact .inr (.inl e)
            · exact absurd rfl hne
          | none => rw [h4] at hy; cases hy
      · have h6 : rule6 x = some y → InvR me M y := by
          intro h6
          unfold rule6 at h6
          split at h6
          · rename_i hs2
            simp only [Bool.and_eq_true, beq_iff_eq] at hs2
            simp only [Option.some.injEq] at h6
            subst h6
            exact inv_precommit0 h hs2.1 hr
          · cases h6
        unfold rule56 at hy
        split at hy
        · exact h6 hy
        · cases h5 : propBy x (P5 x.l x.s.round) with
          | some m =>
            rw [h5] at hy
            simp only [Option.some.injEq] at hy
            subst hy
            obtain ⟨hm, hk1, _, hp5⟩ := propBy_some h5
            simp only [P5, decide_eq_true_eq] at hp5
            have hv := (prop_val hmsg hm hk1).1
            unfold polkaR
            split
            · rename_i hs2
              rw [beq_iff_eq] at hs2
              exact inv_valid (inv_lock h hs2 hr hv (inv_quor h (by decide) hp5)) hr hv
            · exact inv_valid h hr hv
          | none => rw [h5] at hy; exact h6 hy
theorem inv_rest (h : InvR me M x) : InvR me M (restR x) := by
  have main : ∀ (k : Nat) (x : RunS), InvR me M x → InvR me M (restF k x) := by
    intro k
    induction k with
    | zero => exact fun x h => h
    | succ k ih =>
      intro x h
      unfold restF
      cases hr : ruleR x with
      | none => exact h
      | some y => exact ih y (inv_rule h hr)
  exact main _ x h
/-- what a run sends is its node's own -/
theorem rule_from {y : RunS} (hy : ruleR x = some y) : y.s.me = x.s.me ∧ ∀ m ∈ y.o, m ∈ x.o ∨ m.f = x.s.me := by
  have hs : ∀ (z : RunS) (k v p : Int), ∀ m ∈ (sendR z k v p).o, m ∈ z.o ∨ m.f = z.s.me := fun z k v p m hm => by
    rcases List.mem_append.1 hm with h | h
    · exact .inl h
    · simp only [List.mem_singleton] at h; subst h; exact .inr rfl
  have hst : ∀ r, (startR x r).s.me = x.s.me ∧ ∀ m ∈ (startR x r).o, m ∈ x.o ∨ m.f = x.s.me := fun r => by
    unfold startR
    split
    · split
      · exact ⟨rfl, hs ⟨atRound x.s r, x.l, x.o⟩ _ _ _⟩
      · exact ⟨rfl, hs ⟨atRound x.s r, x.l, x.o⟩ _ _ _⟩
    · exact ⟨rfl, fun m hm => .inl hm⟩
  have h6 : rule6 x = some y → y.s.me = x.s.me ∧ ∀ m ∈ y.o, m ∈ x.o ∨ m.f = x.s.me := fun h => by
    unfold rule6 at h
    split at h
    · simp only [Option.some.injEq] at h; subst h; exact ⟨rfl, hs x _ _ _⟩
    · cases h
  unfold ruleR at hy
  split at hy
  · cases hy
  split at hy
  · simp only [Option.some.injEq] at hy; subst hy; exact ⟨rfl, fun m hm => .inl hm⟩
  split at hy
  · simp only [Option.some.injEq] at hy; subst hy; exact hst _
  split at hy
  · unfold rule34 at hy
    split at hy
    · simp only [Option.some.injEq] at hy; subst hy; exact ⟨rfl, hs x _ _ _⟩
    · split at hy
      · simp only [Option.some.injEq] at hy; subst hy; exact ⟨rfl, hs x _ _ _⟩
      · cases hy
  · unfold rule56 at hy
    split at hy
    · exact h6 hy
    · split at hy
      · rename_i m _
        simp only [Option.some.injEq] at hy; subst hy
        unfold polkaR
        split
        · exact ⟨rfl, hs (lockR x m.v) _ _ _⟩
        · exact ⟨rfl, fun m hm => .inl hm⟩
      · exact h6 hy
end
theorem rest_from (x : RunS) : (restR x).s.me = x.s.me ∧ ∀ m ∈ (restR x).o, m ∈ x.o ∨ m.f = x.s.me := by
  have main : ∀ (k : Nat) (x : RunS), (restF k x).s.me = x.s.me ∧ ∀ m ∈ (restF k x).o, m ∈ x.o ∨ m.f = x.s.me := by
    intro k
    induction k with
    | zero => exact fun x => ⟨rfl, fun m hm => .inl hm⟩
    | succ k ih =>
      intro x
      unfold restF
      cases hr : ruleR x with
      | none => exact ⟨rfl, fun m hm => .inl hm⟩
      | some y =>
        obtain ⟨a, b⟩ := rule_from hr
        obtain ⟨c, d⟩ := ih y
        refine ⟨c.trans a, fun m hm => ?_⟩
        rcases d m hm with h | h
        · exact b m h
        · exact .inr (h.trans a)
  exact main _ x
end Go.Proofs.Ytjgaelnonacdkaa
