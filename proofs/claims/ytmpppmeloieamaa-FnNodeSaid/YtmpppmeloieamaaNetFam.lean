/- Nodes in a row, and the family of small functions on Net. -/
import Derived.Test.YtmpppmeloieamaaNodeFam
import Derived.Test.YtmpppmeloieamaaApp
import Derived.Deep.DeepMust
import Derived.WalkKit
import Derived.WalkSpells
import Derived.WalkLawsBesides
import Derived.Lib.Hide
namespace Go.Proofs.Ytmpppmeloieamaa
open Go.RowKit

structure NodeV where
  s : NodeS
  A : Option Addr
  n : Nat
  c : Nat
structure NodeD where
  s : NodeS
  l : List NMsgD
def nodeC (x : NodeV) : List Value := [.int .i64 x.s.me, .int .i64 x.s.round, .int .i64 x.s.step, .int .i64 x.s.lv, .int .i64 x.s.lr, .int .i64 x.s.vv, .int .i64 x.s.vr, .int .i64 x.s.polka, .int .i64 x.s.dec, .slice x.A x.n x.c]
theorem nodeC_len (x : NodeV) : (nodeC x).length = 10 := rfl

/-- A row of nodes that reads as ln. -/
def NodesRd (w : World) (B : Nat) (A : Option Addr) (n c : Nat) (ln : List NodeD) : Prop :=
  ∃ lv : List NodeV, RdL nodeC 10 w B A n c lv ∧ ln.length = n ∧ ∀ (i : Nat) (v : NodeV), lv[i]? = some v → ∃ x : NodeD, ln[i]? = some x ∧ v.s = x.s ∧ RdL msgC 5 w B v.A v.n v.c x.l
section
variable {w w' : World} {B B' n c : Nat} {A : Option Addr} {ln : List NodeD}
theorem NodesRd.below (h : NodesRd w B A n c ln) (hb : Below B' w w') (hB : B ≤ B') : NodesRd w' B A n c ln := by
  obtain ⟨lv, h1, h2, h3⟩ := h
  refine ⟨lv, h1.below hb hB, h2, fun i v hv => ?_⟩
  obtain ⟨x, a, b, d⟩ := h3 i v hv
  exact ⟨x, a, b, d.below hb hB⟩
theorem NodesRd.more (h : NodesRd w B A n c ln) (hB : B ≤ B') : NodesRd w B' A n c ln := by
  obtain ⟨lv, h1, h2, h3⟩ := h
  refine ⟨lv, h1.more hB, h2, fun i v hv => ?_⟩
  obtain ⟨x, a, b, d⟩ := h3 i v hv
  exact ⟨x, a, b, d.more hB⟩
theorem NodesRd.alloc (h : NodesRd w B A n c ln) (hB : B ≤ w.heap.size) (o : Obj) : NodesRd (w.alloc o) B A n c ln := by
  obtain ⟨lv, h1, h2, h3⟩ := h
  refine ⟨lv, h1.alloc hB o, h2, fun i v hv => ?_⟩
  obtain ⟨x, a, b, d⟩ := h3 i v hv
  exact ⟨x, a, b, d.alloc hB o⟩
theorem NodesRd.le (h : NodesRd w B A n c ln) : n ≤ 9223372036854775807 := by
  obtain ⟨lv, h1, _⟩ := h; exact h1.le
theorem NodesRd.at_ (h : NodesRd w B A n c ln) {k : Nat} (hk : k < n) :
    ∃ b off s A1 n1 c1 l, A = some ⟨b, off, none⟩ ∧ b < B ∧ ln[k]? = some ⟨s, l⟩ ∧ RdL msgC 5 w B A1 n1 c1 l ∧
      w.cell? ⟨b, off + k * 10, none⟩ = some (.int .i64 s.me) ∧ w.cell? ⟨b, off + k * 10 + 1, none⟩ = some (.int .i64 s.round) ∧ w.cell? ⟨b, off + k * 10 + 2, none⟩ = some (.int .i64 s.step) ∧
      w.cell? ⟨b, off + k * 10 + 3, none⟩ = some (.int .i64 s.lv) ∧ w.cell? ⟨b, off + k * 10 + 4, none⟩ = some (.int .i64 s.lr) ∧ w.cell? ⟨b, off + k * 10 + 5, none⟩ = some (.int .i64 s.vv) ∧
      w.cell? ⟨b, off + k * 10 + 6, none⟩ = some (.int .i64 s.vr) ∧ w.cell? ⟨b, off + k * 10 + 7, none⟩ = some (.int .i64 s.polka) ∧ w.cell? ⟨b, off + k * 10 + 8, none⟩ = some (.int .i64 s.dec) ∧
      w.cell? ⟨b, off + k * 10 + 9, none⟩ = some (.slice A1 n1 c1) := by
  obtain ⟨lv, h1, h2, h3⟩ := h
  obtain ⟨b, off, v, e, hb, hp, hc⟩ := h1.at_ nodeC_len hk
  obtain ⟨⟨s, l⟩, a, hs, d⟩ := h3 k v hp
  obtain ⟨s', A1, n1, c1⟩ := v
  obtain rfl : s' = s := hs
  exact ⟨b, off, _, A1, n1, c1, l, e, hb, a, d, hc 0 (by omega), hc 1 (by omega), hc 2 (by omega), hc 3 (by omega), hc 4 (by omega), hc 5 (by omega), hc 6 (by omega), hc 7 (by omega), hc 8 (by omega), hc 9 (by omega)⟩
end

/-- A row of nodes of one's own, each with messages of its own. -/
def NodesOwn (w : World) (lo hi : Nat) (A : Option Addr) (n c : Nat) (ln : List NodeD) : Prop :=
  ∃ lv : List NodeV, OwnL nodeC 10 28 w lo hi A n c lv ∧ ln.length = n ∧
    (∀ (i : Nat) (v : NodeV), lv[i]? = some v → ∃ x : NodeD, ln[i]? = some x ∧ v.s = x.s ∧ OwnL msgC 5 40 w lo hi v.A v.n v.c x.l) ∧
    ∀ (i j : Nat) (vi vj : NodeV) (g : Nat), lv[i]? = some vi → lv[j]? = some vj → vi.A = some ⟨g, 0, none⟩ → vj.A = some ⟨g, 0, none⟩ → i = j
section
variable {w w' : World} {B B' n c lo hi lo' hi' : Nat} {A : Option Addr} {ln : List NodeD}
theorem NodesOwn.chg (h : NodesOwn w lo hi A n c ln) (hb : Chg lo' hi' w w') (hB : hi ≤ lo' ∨ hi' ≤ lo) : NodesOwn w' lo hi A n c ln := by
  obtain ⟨lv, h1, h2, h3, h4⟩ := h
  refine ⟨lv, h1.chg hb hB, h2, fun i v hv => ?_, h4⟩
  obtain ⟨x, a, b, d⟩ := h3 i v hv
  exact ⟨x, a, b, d.chg hb hB⟩
theorem NodesOwn.wide (h : NodesOwn w lo hi A n c ln) (h1 : lo' ≤ lo) (h2 : hi ≤ hi') : NodesOwn w lo' hi' A n c ln := by
  obtain ⟨lv, g1, g2, h3, h4⟩ := h
  refine ⟨lv, g1.wide h1 h2, g2, fun i v hv => ?_, h4⟩
  obtain ⟨x, a, b, d⟩ := h3 i v hv
  exact ⟨x, a, b, d.wide h1 h2⟩
theorem NodesOwn.rd (h : NodesOwn w lo hi A n c ln) : NodesRd w hi A n c ln := by
  obtain ⟨lv, h1, h2, h3, h4⟩ := h
  refine ⟨lv, h1.rd nodeC_len, h2, fun i v hv => ?_⟩
  obtain ⟨x, a, b, d⟩ := h3 i v hv
  exact ⟨x, a, b, d.rd msgC_len⟩
end

/-- the first k nodes are laid into block g -/
def NodesTo (lv : List NodeV) (ln : List NodeD) (k n : Nat) (w : World) (g : Nat) : Prop :=
  lv.length = k ∧ (∃ cur, Blk w g 28 cur ∧ cur.size = n * 10 ∧ ∀ j, j < k * 10 → cur[j]? = (lv.flatMap nodeC)[j]?) ∧
    (∀ (i : Nat) (v : NodeV), lv[i]? = some v → ∃ x : NodeD, ln[i]? = some x ∧ v.s = x.s ∧ OwnL msgC 5 40 w (g + 1) w.heap.size v.A v.n v.c x.l) ∧
    ∀ (i j : Nat) (vi vj : NodeV) (g : Nat), lv[i]? = some vi → lv[j]? = some vj → vi.A = some ⟨g, 0, none⟩ → vj.A = some ⟨g, 0, none⟩ → i = j

theorem NodesTo.next {lv : List NodeV} {ln : List NodeD} {k n g : Nat} {w w2 w3 : World} {cur cur' : Array Value} {v : NodeV} {x : NodeD}
    (hlen : lv.length = k) (hcur : ∀ j, j < k * 10 → cur[j]? = (lv.flatMap nodeC)[j]?) (hn : cur.size = n * 10)
    (hms : ∀ (i : Nat) (v : NodeV), lv[i]? = some v → ∃ x : NodeD, ln[i]? = some x ∧ v.s = x.s ∧ OwnL msgC 5 40 w (g + 1) w.heap.size v.A v.n v.c x.l)
    (hd : ∀ (i j : Nat) (vi vj : NodeV) (g : Nat), lv[i]? = some vi → lv[j]? = some vj → vi.A = some ⟨g, 0, none⟩ → vj.A = some ⟨g, 0, none⟩ → i = j)
    (hx : ln[k]? = some x) (hv : v.s = x.s) (hb : Below w.heap.size w w2) (ho : OwnL msgC 5 40 w2 w.heap.size w2.heap.size v.A v.n v.c x.l) (hg : g < w.heap.size)
    (hch : Chg g (g + 1) w2 w3) (hblk : Blk w3 g 28 cur') (hn' : cur'.size = cur.size) (h1 : ∀ j, j < k * 10 → cur'[j]? = cur[j]?) (h2 : ∀ j, j < 10 → cur'[k * 10 + j]? = (nodeC v)[j]?) :
    NodesTo (lv ++ [v]) ln (k + 1) n w3 g := by
  have e2 := hb.size
  have e3 := hch.size
  refine ⟨by simp [hlen], ⟨cur', hblk, by rw [hn', hn], fun j hj => ?_⟩, fun i u hu => ?_, ?_⟩
  · have hfl : (lv.flatMap nodeC).length = k * 10 := by rw [flat_len nodeC 10 lv (fun x _ => nodeC_len x), hlen]
    rw [List.flatMap_append]
    rcases Nat.lt_or_ge j (k * 10) with hlt | hge
    · rw [h1 j hlt, hcur j hlt, List.getElem?_append_left (by omega)]
    · rw [List.getElem?_append_right (by omega), hfl]
      obtain ⟨r, rfl⟩ := Nat.exists_eq_add_of_le hge
      rw [h2 r (by omega), Nat.add_sub_cancel_left]
      simp
  · rcases Nat.lt_or_ge i k with hlt | hge
    · rw [List.getElem?_append_left (by omega)] at hu
      obtain ⟨y, a, b, d⟩ := hms i u hu
      exact ⟨y, a, b, ((d.below hb (Nat.le_refl _)).chg hch (.inr (Nat.le_refl _))).wide (Nat.le_refl _) (by omega)⟩
    · rw [List.getElem?_append_right (by omega), hlen] at hu
      have hi : i = k := by
        rcases Nat.eq_zero_or_pos (i - k) with h0 | h0
        · omega
        · rw [List.getElem?_eq_none (by simp; omega)] at hu; cases hu
      subst hi
      simp only [Nat.sub_self, List.getElem?_cons_zero, Option.some.injEq] at hu
      subst hu
      exact ⟨x, hx, hv, (ho.chg hch (.inr (by omega))).wide (by omega) (by omega)⟩
  · intro i j vi vj q hi hj ei ej
    have blk : ∀ (i : Nat) (u : NodeV), lv[i]? = some u → u.A = some ⟨q, 0, none⟩ → q < w.heap.size := by
      intro i u hu hA
      obtain ⟨y, _, _, d⟩ := hms i u hu
      exact (d.block q (by rw [hA]; rfl)).2
    have new : v.A = some ⟨q, 0, none⟩ → w.heap.size ≤ q := fun hA => (ho.block q (by rw [hA]; rfl)).1
    have side : ∀ (i : Nat) (u : NodeV), (lv ++ [v])[i]? = some u → (i < k ∧ lv[i]? = some u) ∨ (i = k ∧ u = v) := by
      intro i u hu
      rcases Nat.lt_or_ge i k with hlt | hge
      · rw [List.getElem?_append_left (by omega)] at hu; exact .inl ⟨hlt, hu⟩
      · rw [List.getElem?_append_right (by omega), hlen] at hu
        have hi : i = k := by
          rcases Nat.eq_zero_or_pos (i - k) with h0 | h0
          · omega
          · rw [List.getElem?_eq_none (by simp; omega)] at hu; cases hu
        subst hi
        simp only [Nat.sub_self, List.getElem?_cons_zero, Option.some.injEq] at hu
        exact .inr ⟨rfl, hu.symm⟩
    rcases side i vi hi with ⟨_, a⟩ | ⟨rfl, rfl⟩ <;> rcases side j vj hj with ⟨_, b⟩ | ⟨rfl, rfl⟩
    · exact hd i j vi vj q a b ei ej
    · have := blk i vi a ei; have := new ej; omega
    · have := blk j vj b ej; have := new ei; omega
    · rfl
theorem NodesTo.done {lv : List NodeV} {ln : List NodeD} {n g : Nat} {w : World} (hl : ln.length = n) (hn : n ≤ maxLen) (hg : g < w.heap.size) (h : NodesTo lv ln n n w g) :
    NodesOwn w g w.heap.size (some ⟨g, 0, none⟩) n n ln := by
  obtain ⟨h1, ⟨cur, a, b, d⟩, h3, h4⟩ := h
  refine ⟨lv, ⟨h1, .inr ⟨g, cur, rfl, Nat.le_refl _, hg, a, Nat.le_refl _, hn, b, d⟩⟩, hl, fun i v hv => ?_, h4⟩
  obtain ⟨x, p, q, r⟩ := h3 i v hv
  exact ⟨x, p, q, r.wide (by omega) (Nat.le_refl _)⟩



end Go.Proofs.Ytmpppmeloieamaa
