/- NetPut, NetPool: joined into one text. -/
import Derived.WalkKit
import Derived.WalkSpells
import Derived.WalkLawsBesides
import Derived.Lib.Hide
import Derived.Test.YtjgaelnonacdkaaG32
import Derived.Test.YtjgaelnonacdkaaMReg
import Derived.Test.YtjgaelnonacdkaaMNetRule
import Derived.Test.YtjgaelnonacdkaaMActCalls
import Derived.Test.YtjgaelnonacdkaaG26
namespace Go.Proofs.Ytjgaelnonacdkaa
open Go.RowKit

theorem OwnL.by_box {w w' : World} {lo hi g : Nat} {C : Option Addr} {n e : Nat} {l : List NMsgD} {cs : Array Value} {T : TypeId} (hb : Blk w g T cs) (ht : T ≠ 49) (hc : Chg g (g + 1) w w') (h : OwnL msgC 5 49 w lo hi C n e l) :
    OwnL msgC 5 49 w' lo hi C n e l := by
  refine h.keep fun q _ h2 eg => ?_
  obtain ⟨c1, b1, _⟩ := h.blk eg
  by_cases hq : q = g
  · subst hq
    have b1' : w.heap[q]? = some (.cells c1 49 (0, 0)) := b1
    have b2' : w.heap[q]? = some (.cells cs T (0, 0)) := hb
    rw [b1'] at b2'
    simp only [Option.some.injEq, Obj.cells.injEq] at b2'
    exact absurd b2'.2.1.symm ht
  · exact hc.block q (Blk.lt b1) (by omega)
/-- A row of nodes of one's own, no node's messages in a block of Q. -/
def NodesX (w : World) (lo hi : Nat) (A : Option Addr) (n c : Nat) (ln : List NodeD) (Q : Nat → Prop) : Prop :=
  ∃ lv : List NodeV, OwnL nodeC 10 79 w lo hi A n c lv ∧ ln.length = n ∧
    (∀ (i : Nat) (v : NodeV), lv[i]? = some v → ∃ x : NodeD, ln[i]? = some x ∧ v.s = x.s ∧ OwnL msgC 5 49 w lo hi v.A v.n v.c x.l) ∧
    (∀ (i j : Nat) (vi vj : NodeV) (g : Nat), lv[i]? = some vi → lv[j]? = some vj → vi.A = some ⟨g, 0, none⟩ → vj.A = some ⟨g, 0, none⟩ → i = j) ∧
    ∀ (i : Nat) (v : NodeV) (g : Nat), lv[i]? = some v → v.A = some ⟨g, 0, none⟩ → ¬ Q g
theorem NodesX.own {w : World} {lo hi : Nat} {A : Option Addr} {n c : Nat} {ln : List NodeD} {Q : Nat → Prop} (h : NodesX w lo hi A n c ln Q) : NodesOwn w lo hi A n c ln := by
  obtain ⟨lv, a, b, d, e, _⟩ := h
  exact ⟨lv, a, b, d, e⟩
theorem NodesX.of {w : World} {lo hi : Nat} {A : Option Addr} {n c : Nat} {ln : List NodeD} (h : NodesOwn w lo hi A n c ln) : NodesX w lo hi A n c ln (fun _ => False) := by
  obtain ⟨lv, a, b, d, e⟩ := h
  exact ⟨lv, a, b, d, e, fun _ _ _ _ _ h => h⟩
theorem NodesX.swap {w : World} {lo hi : Nat} {A : Option Addr} {n c : Nat} {ln : List NodeD} {Q Q' : Nat → Prop} (h : NodesX w lo hi A n c ln Q) (hq : ∀ q, lo ≤ q → q < hi → Q' q → Q q) : NodesX w lo hi A n c ln Q' := by
  obtain ⟨lv, a, b, d, e, f⟩ := h
  refine ⟨lv, a, b, d, e, fun i v g hv hg hq' => f i v g hv hg ?_⟩
  obtain ⟨x, _, _, ho⟩ := d i v hv
  have := ho.block g (by rw [hg]; rfl)
  exact hq g this.1 this.2 hq'
theorem NodesX.keep {w w' : World} {lo hi hi' : Nat} {A : Option Addr} {n c : Nat} {ln : List NodeD} {Q : Nat → Prop} (h : NodesX w lo hi A n c ln Q) (hh : hi ≤ hi') (hk : ∀ q, lo ≤ q → q < hi → (∀ cs, Blk w q 49 cs → ¬ Q q) → w'.heap[q]? = w.heap[q]?) : NodesX w' lo hi' A n c ln Q := by
  obtain ⟨lv, a, b, d, e, f⟩ := h
  refine ⟨lv, OwnL.wide (a.keep fun g h1 h2 eg => hk g h1 h2 fun cs hb => ?_) (Nat.le_refl _) hh, b, fun i v hv => ?_, e, f⟩
  · obtain ⟨c1, b1, _⟩ := a.blk eg
    have b1' : w.heap[g]? = some (.cells c1 79 (0, 0)) := b1
    have b2' : w.heap[g]? = some (.cells cs 49 (0, 0)) := hb
    rw [b1'] at b2'
    simp only [Option.some.injEq, Obj.cells.injEq] at b2'
    exact absurd b2'.2.1 (by decide)
  · obtain ⟨x, p, q, r⟩ := d i v hv
    refine ⟨x, p, q, OwnL.wide (r.keep fun g h1 h2 eg => hk g h1 h2 fun cs hb => ?_) (Nat.le_refl _) hh⟩
    have hz : v.A = some ⟨g, 0, none⟩ := by
      obtain ⟨_, ⟨_, h0, _⟩ | ⟨g', cur, e1, _⟩⟩ := r
      · rw [h0] at eg; simp [Value.ownBlock] at eg
      · rw [e1] at eg ⊢
        simp only [Value.ownBlock, Option.some.injEq] at eg
        rw [eg]
    exact f i v g hv hz
theorem NodesX.open {w : World} {lo hi : Nat} {A : Option Addr} {n c : Nat} {ln : List NodeD} {Q : Nat → Prop} (h : NodesX w lo hi A n c ln Q) (hn : 0 < n) : ∃ g cur, A = some ⟨g, 0, none⟩ ∧ lo ≤ g ∧ g < hi ∧ Blk w g 79 cur ∧ n ≤ c ∧ cur.size = c * 10 := by
  obtain ⟨lv, ⟨hl, h0 | ⟨g, cur, rfl, b, d, e, h1, h2, h3, h4⟩⟩, hln, _⟩ := h
  · omega
  · exact ⟨g, cur, rfl, b, d, e, h1, h3⟩
theorem NodesX.put {w w' : World} {lo hi lo2 hi2 g j n c : Nat} {ln : List NodeD} {Q : Nat → Prop} {cur cur' : Array Value} {s : NodeS} {B : Option Addr} {m d : Nat} {l : List NMsgD}
    (h : NodesX w lo hi (some ⟨g, 0, none⟩) n c ln Q) (hb : Blk w g 79 cur) (hj : j < n) (hc : Chg g (g + 1) w w') (hb' : Blk w' g 79 cur') (hsz : cur'.size = cur.size)
    (hk : ∀ i, (i < j * 10 ∨ j * 10 + 10 ≤ i) → cur'[i]? = cur[i]?) (hv : ∀ q, q < 10 → cur'[j * 10 + q]? = (nodeC ⟨s, B, m, d⟩)[q]?)
    (hm : OwnL msgC 5 49 w' lo2 hi2 B m d l) (hlo : hi ≤ lo2) (hll : lo ≤ hi) (h22 : lo2 ≤ hi2) (hq : ∀ q, lo2 ≤ q → q < hi2 → ¬ Q q) : NodesX w' lo hi2 (some ⟨g, 0, none⟩) n c (ln.set j ⟨s, l⟩) Q := by
  obtain ⟨lv, ho, hln, hms, hd, hx⟩ := h
  obtain ⟨hl, h0 | ⟨g', cur0, e0, b, dd, e, h1, h2, h3, h4⟩⟩ := ho
  · cases h0.2.1
  simp only [Option.some.injEq, Addr.mk.injEq, and_true] at e0
  subst e0
  have ec : cur0 = cur := by
    have x1 : w.heap[g]? = some (.cells cur0 79 (0, 0)) := e
    have x2 : w.heap[g]? = some (.cells cur 79 (0, 0)) := hb
    rw [x1] at x2
    simp only [Option.some.injEq, Obj.cells.injEq] at x2
    exact x2.1
  subst ec
  have hlv : (lv.set j (⟨s, B, m, d⟩ : NodeV)).length = n := by simpa using hl
  refine ⟨lv.set j ⟨s, B, m, d⟩, ⟨hlv, .inr ⟨g, cur', rfl, b, by omega, hb', h1, h2, by rw [hsz, h3], fun i hi => ?_⟩⟩, by simpa using hln, fun i v hvi => ?_, ?_, ?_⟩
  · have hq10 : i % 10 < 10 := Nat.mod_lt _ (by decide)
    have hdiv : i = i / 10 * 10 + i % 10 := by omega
    have hi3 : i / 10 < n := by omega
    obtain ⟨u, hu⟩ : ∃ u, (lv.set j (⟨s, B, m, d⟩ : NodeV))[i / 10]? = some u := ⟨_, List.getElem?_eq_getElem (by omega)⟩
    have hf := flat_at nodeC 10 (lv.set j (⟨s, B, m, d⟩ : NodeV)) (fun x _ => nodeC_len x) (i / 10) (i % 10) u hu hq10
    rw [← hdiv] at hf
    rw [hf]
    rw [List.getElem?_set] at hu
    by_cases hij : j = i / 10
    · rw [if_pos hij, if_pos (by omega)] at hu
      simp only [Option.some.injEq] at hu
      subst hu
      have := hv (i % 10) hq10
      rw [hij, ← hdiv] at this
      exact this
    · rw [if_neg hij] at hu
      rw [hk i (by omega), h4 i hi]
      have hf2 := flat_at nodeC 10 lv (fun x _ => nodeC_len x) (i / 10) (i % 10) u hu hq10
      rw [← hdiv] at hf2
      exact hf2
  · rw [List.getElem?_set] at hvi
    by_cases hij : j = i
    · subst hij
      rw [if_pos rfl, if_pos (by omega)] at hvi
      simp only [Option.some.injEq] at hvi
      subst hvi
      exact ⟨⟨s, l⟩, by rw [List.getElem?_set, if_pos rfl, if_pos (by omega)], rfl, hm.wide (by omega) (Nat.le_refl _)⟩
    · rw [if_neg hij] at hvi
      obtain ⟨x, p, q, r⟩ := hms i v hvi
      exact ⟨x, by rw [List.getElem?_set, if_neg hij]; exact p, q, (OwnL.by_box hb (by decide) hc r).wide (Nat.le_refl _) (by omega)⟩
  · have old : ∀ (i : Nat) (u : NodeV) (q : Nat), lv[i]? = some u → u.A = some ⟨q, 0, none⟩ → q < hi := by
      intro i u q hu hA
      obtain ⟨y, _, _, r⟩ := hms i u hu
      exact (r.block q (by rw [hA]; rfl)).2
    have new : ∀ q, B = some ⟨q, 0, none⟩ → lo2 ≤ q := fun q hA => (hm.block q (by rw [hA]; rfl)).1
    intro i k vi vk q hi hk' ei ek
    rw [List.getElem?_set] at hi hk'
    by_cases h1 : j = i <;> by_cases h2 : j = k
    · omega
    · subst h1
      rw [if_pos rfl, if_pos (by omega)] at hi
      rw [if_neg h2] at hk'
      simp only [Option.some.injEq] at hi
      subst hi
      have := new q ei; have := old k vk q hk' ek; omega
    · subst h2
      rw [if_pos rfl, if_pos (by omega)] at hk'
      rw [if_neg h1] at hi
      simp only [Option.some.injEq] at hk'
      subst hk'
      have := new q ek; have := old i vi q hi ei; omega
    · rw [if_neg h1] at hi
      rw [if_neg h2] at hk'
      exact hd i k vi vk q hi hk' ei ek
  · intro i v q hvi hA
    rw [List.getElem?_set] at hvi
    by_cases hij : j = i
    · subst hij
      rw [if_pos rfl, if_pos (by omega)] at hvi
      simp only [Option.some.injEq] at hvi
      subst hvi
      have hA' : B = some ⟨q, 0, none⟩ := hA
      have hbq := hm.block q (by rw [hA']; rfl)
      exact hq q hbq.1 hbq.2
    · rw [if_neg hij] at hvi
      exact hx i v q hvi hA
end Go.Proofs.Ytjgaelnonacdkaa
namespace Go.Proofs.Ytjgaelnonacdkaa
open Go.RowKit

theorem Chg.under {lo hi B : Nat} {a b : World} (h : Chg lo hi a b) (hB : B ≤ lo ∨ hi ≤ lo) (hs : B ≤ a.heap.size) : Below B a b :=
  ⟨h.os, h.tape, h.output, h.size, fun k hk => h.block k (by omega) (by omega)⟩
theorem NodesOwn.kept {w w' : World} {lo hi : Nat} {A : Option Addr} {n c : Nat} {ln : List NodeD} {Q : Nat → Prop} (h : NodesOwn w lo hi A n c ln) (hk : Keep Q w w') (hq : ∀ q, lo ≤ q → q < hi → Q q) : NodesOwn w' lo hi A n c ln :=
  ((NodesX.of h).keep (Nat.le_refl _) fun q h1 h2 _ => hk.block q (hq q h1 h2)).own
theorem OwnL.kept {w w' : World} {lo hi : Nat} {A : Option Addr} {n c : Nat} {l : List NMsgD} {Q : Nat → Prop} (h : OwnL msgC 5 49 w lo hi A n c l) (hk : Keep Q w w') (hq : ∀ q, lo ≤ q → q < hi → Q q) : OwnL msgC 5 49 w' lo hi A n c l :=
  h.keep fun g h1 h2 _ => hk.block g (hq g h1 h2)
theorem NodesOwn.keptT {w w' : World} {lo hi O T n c : Nat} {A : Option Addr} {ln : List NodeD} {Q : Nat → Prop} {cs : Array Value} (h : NodesOwn w lo hi A n c ln) (hk : Keep Q w w') (hb : Blk w O T cs) (hT1 : T ≠ 79) (hT2 : T ≠ 49) (hq : ∀ q, lo ≤ q → q < hi → q ≠ O → Q q) : NodesOwn w' lo hi A n c ln := by
  obtain ⟨lv, a, b, d, e⟩ := h
  have key : ∀ (g : Nat) (U : TypeId) (cu : Array Value), Blk w g U cu → T ≠ U → g ≠ O := by
    intro g U cu hu hne hg
    subst hg
    have h1 : w.heap[g]? = some (.cells cu U (0, 0)) := hu
    have h2 : w.heap[g]? = some (.cells cs T (0, 0)) := hb
    rw [h1] at h2
    simp only [Option.some.injEq, Obj.cells.injEq] at h2
    exact hne h2.2.1.symm
  refine ⟨lv, a.keep fun g h1 h2 eg => ?_, b, fun i v hv => ?_, e⟩
  · obtain ⟨cu, hu, _⟩ := a.blk eg
    exact hk.block g (hq g h1 h2 (key g _ cu hu hT1))
  · obtain ⟨x, p, q, r⟩ := d i v hv
    refine ⟨x, p, q, r.keep fun g h1 h2 eg => ?_⟩
    obtain ⟨cu, hu, _⟩ := r.blk eg
    exact hk.block g (hq g h1 h2 (key g _ cu hu hT2))
def PoolIn (w : World) (lo m1 m2 : Nat) (P : Option Addr) (d : Nat) (lp : List NMsgD) : Prop :=
  OwnL msgC 5 49 w lo m1 P lp.length d lp ∨ OwnL msgC 5 49 w m2 w.heap.size P lp.length d lp
section
variable {w w' : World} {lo m1 m2 : Nat} {P : Option Addr} {d : Nat} {lp : List NMsgD}
theorem PoolIn.owns (h : PoolIn w lo m1 m2 P d lp) (h2 : lo ≤ m2) : w.ownsRow lo 49 5 (.slice P lp.length d) lp.length (lp.flatMap msgC) :=
  h.elim (fun h => h.owns msgC_len) fun h => own_mono (h.owns msgC_len) h2
theorem PoolIn.rd (h : PoolIn w lo m1 m2 P d lp) (h2 : m1 ≤ w.heap.size) : RdL msgC 5 w w.heap.size P lp.length d lp :=
  h.elim (fun h => (h.rd msgC_len).more h2) fun h => h.rd msgC_len
theorem PoolIn.below (h : PoolIn w lo m1 m2 P d lp) (hb : Below w.heap.size w w') (h2 : m1 ≤ w.heap.size) : PoolIn w' lo m1 m2 P d lp :=
  h.elim (fun h => .inl (h.below hb h2)) fun h => .inr ((h.below hb (Nat.le_refl _)).wide (Nat.le_refl _) hb.size)
theorem PoolIn.chg {a b : Nat} (h : PoolIn w lo m1 m2 P d lp) (hc : Chg a b w w') (h1 : m1 ≤ a ∨ b ≤ lo) (h2 : b ≤ m2) : PoolIn w' lo m1 m2 P d lp :=
  h.elim (fun h => .inl (h.chg hc h1)) fun h => .inr ((h.chg hc (.inr h2)).wide (Nat.le_refl _) hc.size)
/-- a message more -/
theorem PoolIn.app {v : Value} {m : NMsgD} {z : Nat} (h : PoolIn w lo m1 m2 P d lp) (h1 : m1 ≤ m2) (h2 : m2 ≤ w.heap.size) (h0 : lo ≤ m1) (hown : w'.ownsRow lo 49 5 v (lp.length + 1) (lp.flatMap msgC ++ msgC m)) (hg : w.grownBy w' (Value.ownBlock (.slice P lp.length d)))
    (hat : v.ownBlock = Value.ownBlock (.slice P lp.length d) ∨ v.ownBlock = some z) (hz : z = w.heap.size) :
    ∃ P' d', v = .slice P' (lp.length + 1) d' ∧ PoolIn w' lo m1 m2 P' d' (lp ++ [m]) ∧ Keep (fun q => q < lo ∨ (m1 ≤ q ∧ q < m2)) w w' := by
  subst hz
  have e : lp.flatMap msgC ++ msgC m = (lp ++ [m]).flatMap msgC := by rw [List.flatMap_append]; simp
  rw [e] at hown
  obtain ⟨P', d', rfl, ho⟩ := OwnL.of_own (f := msgC) (n := lp.length + 1) (l := lp ++ [m]) (by simp) hown
  have ho' : OwnL msgC 5 49 w' lo w'.heap.size P' (lp ++ [m]).length d' (lp ++ [m]) := by simpa using ho
  have hs := hg.size
  have hblk : ∀ g, Value.ownBlock (.slice P lp.length d) = some g → (lo ≤ g ∧ g < m1) ∨ (m2 ≤ g ∧ g < w.heap.size) := fun g hgg => h.elim (fun h => .inl (h.block g hgg)) fun h => .inr (h.block g hgg)
  have narrow : ∀ a b : Nat, (∀ g, Value.ownBlock (.slice P' (lp.length + 1) d') = some g → a ≤ g ∧ g < b) → OwnL msgC 5 49 w' a b P' (lp ++ [m]).length d' (lp ++ [m]) := by
    intro a b hab
    obtain ⟨hl, ⟨h00, _⟩ | ⟨g, cur, rfl, x1, x2, x3⟩⟩ := ho'
    · simp at h00
    · have := hab g rfl
      exact ⟨hl, .inr ⟨g, cur, rfl, this.1, this.2, x3⟩⟩
  refine ⟨P', d', rfl, ?_, ⟨hg.os, hg.tape, hg.output, hg.size, fun q hq => ?_⟩⟩
  · rcases hat with e1 | e1
    · rcases h with h | h
      · exact .inl (narrow lo m1 fun g hgg => h.block g (e1 ▸ hgg))
      · exact .inr (narrow m2 w'.heap.size fun g hgg => by have := h.block g (e1 ▸ hgg); omega)
    · refine .inr (narrow m2 w'.heap.size fun g hgg => ?_)
      rw [e1] at hgg
      simp only [Option.some.injEq] at hgg
      obtain ⟨cur, _, _, hlt⟩ := ho'.blk (g := w.heap.size) (by simpa using e1)
      omega
  · by_cases hlt : q < w.heap.size
    · refine hg.block q hlt fun e2 => ?_
      have := hblk q e2.symm
      omega
    · omega
end
def NetDid (r : List NodeD × List NMsgD × Bool) (w : World) (e : Ending) (w' : World) : Prop :=
  ∃ A c P d m1 m2, e = .returned (.tuple #[.agg #[.slice A r.1.length c, .slice P r.2.1.length d], .bool r.2.2]) ∧ NetIn w' w.heap.size m1 m2 A c P d r.1 r.2.1 ∧ Below w.heap.size w w'
theorem NetDid.mk {r : List NodeD × List NMsgD × Bool} {ln : List NodeD} {lp : List NMsgD} {b : Bool} {w w' : World} {A : Option Addr} {c : Nat} {P : Option Addr} {d n p m1 m2 : Nat} (hr : r = (ln, lp, b)) (hn : ln.length = n) (hp : lp.length = p) (h : NetIn w' w.heap.size m1 m2 A c P d ln lp) (hb : Below w.heap.size w w') :
    NetDid r w (.returned (.tuple #[.agg #[.slice A n c, .slice P p d], .bool b])) w' := by
  subst hr; subst hn; subst hp
  exact ⟨A, c, P, d, m1, m2, rfl, h, hb⟩
theorem MsgOk_b (m : NMsgD) (b : Bool) (w : World) (h : okMsg m = b) :
    Calls Try.prog 73 #[.agg #[.int .i64 m.k, .int .i64 m.r, .int .i64 m.v, .int .i64 m.p, .int .i64 m.f]] w fun e w' => e = .returned (.bool b) ∧ Below w.heap.size w w' := by
  have hh := MsgOk_any m.k m.r m.v m.p m.f w
  rw [show msgB m.k m.r m.v m.p m.f = b from h] at hh
  exact hh
theorem Contains_b (A : Option Addr) (n c : Nat) (l : List NMsgD) (m : NMsgD) (b : Bool) (w : World) (hl : RdL msgC 5 w w.heap.size A n c l) (h : hasB l m = b) :
    Calls Try.prog 74 #[.slice A n c, .agg #[.int .i64 m.k, .int .i64 m.r, .int .i64 m.v, .int .i64 m.p, .int .i64 m.f]] w fun e w' => e = .returned (.bool b) ∧ Below w.heap.size w w' := by
  have hh := ContainsMsg_any A n c l m w hl
  rw [h] at hh
  exact hh
/-- ten cells of a box turned -/
theorem Blk.fill10 {w : World} {g : Nat} {T : TypeId} {s s' : NodeS} {B B' : Option Addr} {m m' d d' : Nat} (h : Blk w g T #[.int .i64 s.me, .int .i64 s.round, .int .i64 s.step, .int .i64 s.lv, .int .i64 s.lr, .int .i64 s.vv, .int .i64 s.vr, .int .i64 s.polka, .int .i64 s.dec, .slice B m d]) :
    Blk ((((((((((w.setCell ⟨g, 0, none⟩ (.int .i64 s'.me)).setCell ⟨g, 1, none⟩ (.int .i64 s'.round)).setCell ⟨g, 2, none⟩ (.int .i64 s'.step)).setCell ⟨g, 3, none⟩ (.int .i64 s'.lv)).setCell ⟨g, 4, none⟩ (.int .i64 s'.lr)).setCell ⟨g, 5, none⟩ (.int .i64 s'.vv)).setCell ⟨g, 6, none⟩ (.int .i64 s'.vr)).setCell ⟨g, 7, none⟩ (.int .i64 s'.polka)).setCell ⟨g, 8, none⟩ (.int .i64 s'.dec)).setCell ⟨g, 9, none⟩ (.slice B' m' d')) g T
      #[.int .i64 s'.me, .int .i64 s'.round, .int .i64 s'.step, .int .i64 s'.lv, .int .i64 s'.lr, .int .i64 s'.vv, .int .i64 s'.vr, .int .i64 s'.polka, .int .i64 s'.dec, .slice B' m' d'] := by
  have hb := (((((((((h.set_ 0 (.int .i64 s'.me)).set_ 1 (.int .i64 s'.round)).set_ 2 (.int .i64 s'.step)).set_ 3 (.int .i64 s'.lv)).set_ 4 (.int .i64 s'.lr)).set_ 5 (.int .i64 s'.vv)).set_ 6 (.int .i64 s'.vr)).set_ 7 (.int .i64 s'.polka)).set_ 8 (.int .i64 s'.dec)).set_ 9 (.slice B' m' d')
  simp only [List.setIfInBounds_toArray, List.set_cons_zero, List.set_cons_succ] at hb
  exact hb
theorem fill10_chg (w : World) (g : Nat) (v0 v1 v2 v3 v4 v5 v6 v7 v8 v9 : Value) :
    Chg g (g + 1) w ((((((((((w.setCell ⟨g, 0, none⟩ v0).setCell ⟨g, 1, none⟩ v1).setCell ⟨g, 2, none⟩ v2).setCell ⟨g, 3, none⟩ v3).setCell ⟨g, 4, none⟩ v4).setCell ⟨g, 5, none⟩ v5).setCell ⟨g, 6, none⟩ v6).setCell ⟨g, 7, none⟩ v7).setCell ⟨g, 8, none⟩ v8).setCell ⟨g, 9, none⟩ v9) := by
  (repeat (first | with_reducible refine Chg.setCell ?_ (by first | exact Nat.le_refl _ | (simp; done) | (simp; omega)) (by first | (simp; done) | (simp; omega)) _ | with_reducible refine Chg.alloc ?_ _ | with_reducible refine Chg.drew ?_)); (with_reducible exact Chg.refl _ _ _)
end Go.Proofs.Ytjgaelnonacdkaa
