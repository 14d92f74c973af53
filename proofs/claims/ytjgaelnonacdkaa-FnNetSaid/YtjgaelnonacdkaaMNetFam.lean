/- Nodes in a row, and the family of small functions on Net. -/
import Derived.Deep.DeepMust
import Derived.WalkKit
import Derived.WalkSpells
import Derived.WalkLawsBesides
import Derived.Lib.Hide
import Derived.Test.YtjgaelnonacdkaaG08
import Derived.Test.YtjgaelnonacdkaaMApp
namespace Go.Proofs.Ytjgaelnonacdkaa
open Go.RowKit

structure NodeV where
  s : NodeS
  A : Option Addr
  n : Nat
  c : Nat
structure NodeD where
  s : NodeS
  l : List NMsgD
def nodeC (x : NodeV) : List Value := [.int .i64 x.s.me, .int .i64 x.s.round, .int .i64 x.s.step, .int .i64 x.s.lv, .int .i64 x.s.lr, .int .i64 x.s.vv, .int .i64 x.s.vr, .int .i64 x.s.polka, .int .i64 x.s.dec, .slice x.A x.n x.c]
theorem nodeC_len (x : NodeV) : (nodeC x).length = 10 := rfl

/-- A row of nodes that reads as ln. -/
def NodesRd (w : World) (B : Nat) (A : Option Addr) (n c : Nat) (ln : List NodeD) : Prop :=
  ∃ lv : List NodeV, RdL nodeC 10 w B A n c lv ∧ ln.length = n ∧ ∀ (i : Nat) (v : NodeV), lv[i]? = some v → ∃ x : NodeD, ln[i]? = some x ∧ v.s = x.s ∧ RdL msgC 5 w B v.A v.n v.c x.l
section
variable {w w' : World} {B B' n c : Nat} {A : Option Addr} {ln : List NodeD}
theorem NodesRd.below (h : NodesRd w B A n c ln) (hb : Below B' w w') (hB : B ≤ B') : NodesRd w' B A n c ln := by
  obtain ⟨lv, h1, h2, h3⟩ := h
  refine ⟨lv, h1.below hb hB, h2, fun i v hv => ?_⟩
  obtain ⟨x, a, b, d⟩ := h3 i v hv
  exact ⟨x, a, b, d.below hb hB⟩
theorem NodesRd.more (h : NodesRd w B A n c ln) (hB : B ≤ B') : NodesRd w B' A n c ln := by
  obtain ⟨lv, h1, h2, h3⟩ := h
  refine ⟨lv, h1.more hB, h2, fun i v hv => ?_⟩
  obtain ⟨x, a, b, d⟩ := h3 i v hv
  exact ⟨x, a, b, d.more hB⟩
theorem NodesRd.alloc (h : NodesRd w B A n c ln) (hB : B ≤ w.heap.size) (o : Obj) : NodesRd (w.alloc o) B A n c ln := by
  obtain ⟨lv, h1, h2, h3⟩ := h
  refine ⟨lv, h1.alloc hB o, h2, fun i v hv => ?_⟩
  obtain ⟨x, a, b, d⟩ := h3 i v hv
  exact ⟨x, a, b, d.alloc hB o⟩
theorem NodesRd.le (h : NodesRd w B A n c ln) : n ≤ 9223372036854775807 := by
  obtain ⟨lv, h1, _⟩ := h; exact h1.le
theorem NodesRd.at_ (h : NodesRd w B A n c ln) {k : Nat} (hk : k < n) :
    ∃ b off s A1 n1 c1 l, A = some ⟨b, off, none⟩ ∧ b < B ∧ ln[k]? = some ⟨s, l⟩ ∧ RdL msgC 5 w B A1 n1 c1 l ∧
      w.cell? ⟨b, off + k * 10, none⟩ = some (.int .i64 s.me) ∧ w.cell? ⟨b, off + k * 10 + 1, none⟩ = some (.int .i64 s.round) ∧ w.cell? ⟨b, off + k * 10 + 2, none⟩ = some (.int .i64 s.step) ∧
      w.cell? ⟨b, off + k * 10 + 3, none⟩ = some (.int .i64 s.lv) ∧ w.cell? ⟨b, off + k * 10 + 4, none⟩ = some (.int .i64 s.lr) ∧ w.cell? ⟨b, off + k * 10 + 5, none⟩ = some (.int .i64 s.vv) ∧
      w.cell? ⟨b, off + k * 10 + 6, none⟩ = some (.int .i64 s.vr) ∧ w.cell? ⟨b, off + k * 10 + 7, none⟩ = some (.int .i64 s.polka) ∧ w.cell? ⟨b, off + k * 10 + 8, none⟩ = some (.int .i64 s.dec) ∧
      w.cell? ⟨b, off + k * 10 + 9, none⟩ = some (.slice A1 n1 c1) := by
  obtain ⟨lv, h1, h2, h3⟩ := h
  obtain ⟨b, off, v, e, hb, hp, hc⟩ := h1.at_ nodeC_len hk
  obtain ⟨⟨s, l⟩, a, hs, d⟩ := h3 k v hp
  obtain ⟨s', A1, n1, c1⟩ := v
  obtain rfl : s' = s := hs
  exact ⟨b, off, _, A1, n1, c1, l, e, hb, a, d, hc 0 (by omega), hc 1 (by omega), hc 2 (by omega), hc 3 (by omega), hc 4 (by omega), hc 5 (by omega), hc 6 (by omega), hc 7 (by omega), hc 8 (by omega), hc 9 (by omega)⟩
end

/-- A row of nodes of one's own, each with messages of its own. -/
def NodesOwn (w : World) (lo hi : Nat) (A : Option Addr) (n c : Nat) (ln : List NodeD) : Prop :=
  ∃ lv : List NodeV, OwnL nodeC 10 79 w lo hi A n c lv ∧ ln.length = n ∧
    (∀ (i : Nat) (v : NodeV), lv[i]? = some v → ∃ x : NodeD, ln[i]? = some x ∧ v.s = x.s ∧ OwnL msgC 5 49 w lo hi v.A v.n v.c x.l) ∧
    ∀ (i j : Nat) (vi vj : NodeV) (g : Nat), lv[i]? = some vi → lv[j]? = some vj → vi.A = some ⟨g, 0, none⟩ → vj.A = some ⟨g, 0, none⟩ → i = j
section
variable {w w' : World} {B B' n c lo hi lo' hi' : Nat} {A : Option Addr} {ln : List NodeD}
theorem NodesOwn.chg (h : NodesOwn w lo hi A n c ln) (hb : Chg lo' hi' w w') (hB : hi ≤ lo' ∨ hi' ≤ lo) : NodesOwn w' lo hi A n c ln := by
  obtain ⟨lv, h1, h2, h3, h4⟩ := h
  refine ⟨lv, h1.chg hb hB, h2, fun i v hv => ?_, h4⟩
  obtain ⟨x, a, b, d⟩ := h3 i v hv
  exact ⟨x, a, b, d.chg hb hB⟩
theorem NodesOwn.wide (h : NodesOwn w lo hi A n c ln) (h1 : lo' ≤ lo) (h2 : hi ≤ hi') : NodesOwn w lo' hi' A n c ln := by
  obtain ⟨lv, g1, g2, h3, h4⟩ := h
  refine ⟨lv, g1.wide h1 h2, g2, fun i v hv => ?_, h4⟩
  obtain ⟨x, a, b, d⟩ := h3 i v hv
  exact ⟨x, a, b, d.wide h1 h2⟩
theorem NodesOwn.rd (h : NodesOwn w lo hi A n c ln) : NodesRd w hi A n c ln := by
  obtain ⟨lv, h1, h2, h3, h4⟩ := h
  refine ⟨lv, h1.rd nodeC_len, h2, fun i v hv => ?_⟩
  obtain ⟨x, a, b, d⟩ := h3 i v hv
  exact ⟨x, a, b, d.rd msgC_len⟩
end

/-- the first k nodes are laid into block g -/
def NodesTo (lv : List NodeV) (ln : List NodeD) (k n : Nat) (w : World) (g : Nat) : Prop :=
  lv.length = k ∧ (∃ cur, Blk w g 79 cur ∧ cur.size = n * 10 ∧ ∀ j, j < k * 10 → cur[j]? = (lv.flatMap nodeC)[j]?) ∧
    (∀ (i : Nat) (v : NodeV), lv[i]? = some v → ∃ x : NodeD, ln[i]? = some x ∧ v.s = x.s ∧ OwnL msgC 5 49 w (g + 1) w.heap.size v.A v.n v.c x.l) ∧
    ∀ (i j : Nat) (vi vj : NodeV) (g : Nat), lv[i]? = some vi → lv[j]? = some vj → vi.A = some ⟨g, 0, none⟩ → vj.A = some ⟨g, 0, none⟩ → i = j

theorem NodesTo.next {lv : List NodeV} {ln : List NodeD} {k n g : Nat} {w w2 w3 : World} {cur cur' : Array Value} {v : NodeV} {x : NodeD}
    (hlen : lv.length = k) (hcur : ∀ j, j < k * 10 → cur[j]? = (lv.flatMap nodeC)[j]?) (hn : cur.size = n * 10)
    (hms : ∀ (i : Nat) (v : NodeV), lv[i]? = some v → ∃ x : NodeD, ln[i]? = some x ∧ v.s = x.s ∧ OwnL msgC 5 49 w (g + 1) w.heap.size v.A v.n v.c x.l)
    (hd : ∀ (i j : Nat) (vi vj : NodeV) (g : Nat), lv[i]? = some vi → lv[j]? = some vj → vi.A = some ⟨g, 0, none⟩ → vj.A = some ⟨g, 0, none⟩ → i = j)
    (hx : ln[k]? = some x) (hv : v.s = x.s) (hb : Below w.heap.size w w2) (ho : OwnL msgC 5 49 w2 w.heap.size w2.heap.size v.A v.n v.c x.l) (hg : g < w.heap.size)
    (hch : Chg g (g + 1) w2 w3) (hblk : Blk w3 g 79 cur') (hn' : cur'.size = cur.size) (h1 : ∀ j, j < k * 10 → cur'[j]? = cur[j]?) (h2 : ∀ j, j < 10 → cur'[k * 10 + j]? = (nodeC v)[j]?) :
    NodesTo (lv ++ [v]) ln (k + 1) n w3 g := by
  have e2 := hb.size
  have e3 := hch.size
  refine ⟨by simp [hlen], ⟨cur', hblk, by rw [hn', hn], fun j hj => ?_⟩, fun i u hu => ?_, ?_⟩
  · have hfl : (lv.flatMap nodeC).length = k * 10 := by rw [flat_len nodeC 10 lv (fun x _ => nodeC_len x), hlen]
    rw [List.flatMap_append]
    rcases Nat.lt_or_ge j (k * 10) with hlt | hge
    · rw [h1 j hlt, hcur j hlt, List.getElem?_append_left (by omega)]
    · rw [List.getElem?_append_right (by omega), hfl]
      obtain ⟨r, rfl⟩ := Nat.exists_eq_add_of_le hge
      rw [h2 r (by omega), Nat.add_sub_cancel_left]
      simp
  · rcases Nat.lt_or_ge i k with hlt | hge
    · rw [List.getElem?_append_left (by omega)] at hu
      obtain ⟨y, a, b, d⟩ := hms i u hu
      exact ⟨y, a, b, ((d.below hb (Nat.le_refl _)).chg hch (.inr (Nat.le_refl _))).wide (Nat.le_refl _) (by omega)⟩
    · rw [List.getElem?_append_right (by omega), hlen] at hu
      have hi : i = k := by
        rcases Nat.eq_zero_or_pos (i - k) with h0 | h0
        · omega
        · rw [List.getElem?_eq_none (by simp; omega)] at hu; cases hu
      subst hi
      simp only [Nat.sub_self, List.getElem?_cons_zero, Option.some.injEq] at hu
      subst hu
      exact ⟨x, hx, hv, (ho.chg hch (.inr (by omega))).wide (by omega) (by omega)⟩
  · intro i j vi vj q hi hj ei ej
    have blk : ∀ (i : Nat) (u : NodeV), lv[i]? = some u → u.A = some ⟨q, 0, none⟩ → q < w.heap.size := by
      intro i u hu hA
      obtain ⟨y, _, _, d⟩ := hms i u hu
      exact (d.block q (by rw [hA]; rfl)).2
    have new : v.A = some ⟨q, 0, none⟩ → w.heap.size ≤ q := fun hA => (ho.block q (by rw [hA]; rfl)).1
    have side : ∀ (i : Nat) (u : NodeV), (lv ++ [v])[i]? = some u → (i < k ∧ lv[i]? = some u) ∨ (i = k ∧ u = v) := by
      intro i u hu
      rcases Nat.lt_or_ge i k with hlt | hge
      · rw [List.getElem?_append_left (by omega)] at hu; exact .inl ⟨hlt, hu⟩
      · rw [List.getElem?_append_right (by omega), hlen] at hu
        have hi : i = k := by
          rcases Nat.eq_zero_or_pos (i - k) with h0 | h0
          · omega
          · rw [List.getElem?_eq_none (by simp; omega)] at hu; cases hu
        subst hi
        simp only [Nat.sub_self, List.getElem?_cons_zero, Option.some.injEq] at hu
        exact .inr ⟨rfl, hu.symm⟩
    rcases side i vi hi with ⟨_, a⟩ | ⟨rfl, rfl⟩ <;> rcases side j vj hj with ⟨_, b⟩ | ⟨rfl, rfl⟩
    · exact hd i j vi vj q a b ei ej
    · have := blk i vi a ei; have := new ej; omega
    · have := blk j vj b ej; have := new ei; omega
    · rfl
theorem NodesTo.done {lv : List NodeV} {ln : List NodeD} {n g : Nat} {w : World} (hl : ln.length = n) (hn : n ≤ maxLen) (hg : g < w.heap.size) (h : NodesTo lv ln n n w g) :
    NodesOwn w g w.heap.size (some ⟨g, 0, none⟩) n n ln := by
  obtain ⟨h1, ⟨cur, a, b, d⟩, h3, h4⟩ := h
  refine ⟨lv, ⟨h1, .inr ⟨g, cur, rfl, Nat.le_refl _, hg, a, Nat.le_refl _, hn, b, d⟩⟩, hl, fun i v hv => ?_, h4⟩
  obtain ⟨x, p, q, r⟩ := h3 i v hv
  exact ⟨x, p, q, r.wide (by omega) (Nat.le_refl _)⟩

theorem infoNode : (Try.prog.info? 79).map (fun i => (i.zero, i.size, i.bytes)) = some (some (.agg #[.int .i64 0, .int .i64 0, .int .i64 0, .int .i64 0, .int .i64 0, .int .i64 0, .int .i64 0, .int .i64 0, .int .i64 0, .slice none 0 0]), 10, 96) := by kernel_rfl

def NodesOut (ln : List NodeD) (w : World) (e : Ending) (w' : World) : Prop :=
  ∃ A c, e = .returned (.slice A ln.length c) ∧ NodesOwn w' w.heap.size w'.heap.size A ln.length c ln ∧ Below w.heap.size w w'

set_option maxHeartbeats 2000000 in
theorem toNodeS_any (A : Option Addr) (c : Nat) (ln : List NodeD) (w : World) (hl : NodesRd w w.heap.size A ln.length c ln) (hn : ln.length ≤ 1048576) (hm : ∀ x ∈ ln, x.l.length ≤ 1048576) :
    Calls Try.prog 46 #[.slice A ln.length c] w (NodesOut ln w) := by
  obtain ⟨n, hnn⟩ : ∃ n, n = ln.length := ⟨_, rfl⟩
  rw [← hnn] at hl hn ⊢
  have HNN := Lib.hid hnn
  obtain ⟨i0, hi, hz0, hz1, hz2⟩ := info_parts infoNode
  obtain ⟨w1, hrun, hown, hg⟩ := run_make_full (P := Try.prog) w w.heap.size 24 79 i0 _ 10 Try.underlying24 hi hz0 hz1 .i64 .i64 n (by rw [hz2]; omega) (by unfold maxLen; omega) (Nat.le_refl _)
  have hb1 : Below w.heap.size w w1 := (Below.refl _ _).grown hg (Nat.le_refl _) (fun k hk => by cases hk)
  have HL := Lib.hid hl
  have HM := Lib.hid hm
  have HO : Hid (NodesTo [] ln 0 n w1 w.heap.size) := by
    obtain ⟨cur, a, b, d⟩ := Laid.start nodeC 10 [] n hown
    exact ⟨rfl, ⟨cur, a, b, fun j hj => absurd hj (by omega)⟩, fun i v hv => by simp at hv, fun i j vi vj g hi => by simp at hi⟩
  have HB := Lib.hid hb1
  clear hl hm hown hb1 hg hi hz0 hz1 hz2 hnn
  go_enter Try.func46, Try.ntmps46
  go_wp2_with fail
  clear hrun
  go_loopw [4] (fun i wr => ∃ (k : Nat) (lv : List NodeV), k ≤ n ∧ i = .int .i64 k ∧ Below w.heap.size w wr ∧ w.heap.size < wr.heap.size ∧ NodesTo lv ln k n wr w.heap.size) (fun i _ => n - (intOf i).toNat)
  case atStart =>
    obtain ⟨_, ⟨cur, h1, _⟩, _⟩ := HO.out
    exact ⟨0, [], by omega, rfl, HB.out, h1.lt, HO.out⟩
  case round =>
    obtain ⟨k, lv, hk, rfl, hb, hz, hto⟩ := hrel
    by_cases hkn : k < n
    · have HT := Lib.hid hto
      obtain ⟨hlen, ⟨cur, h1, h2, h3⟩, h4, h5⟩ := hto
      have H1 := Lib.hid h1; have H2 := Lib.hid h2; have H3 := Lib.hid h3; have H4 := Lib.hid h4; have H5 := Lib.hid h5; have H0 := Lib.hid hlen
      clear h1 h2 h3 h4 h5 hlen
      obtain ⟨b, off, s, A1, n1, c1, l, rfl, hb1, hp, hr, c0, c1', c2, c3, c4, c5, c6, c7, c8, c9⟩ := ((HL.out.below hb (Nat.le_refl _)).more (Nat.le_of_lt hz)).at_ hkn
      have hlm : l.length ≤ 1048576 := HM.out ⟨s, l⟩ (List.mem_of_getElem? hp)
      obtain rfl : l.length = n1 := hr.1
      have HP := Lib.hid hp
      have HR := Lib.hid hr
      clear hp hr
      have hsz : k * 10 + 10 ≤ cur.size := by rw [H2.out]; have := Nat.mul_le_mul_right 10 hkn; omega
      go_wp2_with fail
      refine (toNode_any s A1 l.length c1 l _ HR.out hlm).mono ?_
      rintro e w2 ⟨A2, c2, rfl, hown, hb2⟩
      obtain ⟨A3, c3, he, ho⟩ := OwnL.of_own HR.out.1 hown
      simp only [Value.slice.injEq, true_and] at he
      obtain ⟨rfl, rfl⟩ := he
      have HOW := Lib.hid ho
      have HQ := Lib.hid (H1.out.below hb2 hz)
      have q0 := HQ.out.has (k * 10) (by omega); have q1 := HQ.out.has (k * 10 + 1) (by omega); have q2 := HQ.out.has (k * 10 + 2) (by omega); have q3 := HQ.out.has (k * 10 + 3) (by omega); have q4 := HQ.out.has (k * 10 + 4) (by omega)
      have q5 := HQ.out.has (k * 10 + 5) (by omega); have q6 := HQ.out.has (k * 10 + 6) (by omega); have q7 := HQ.out.has (k * 10 + 7) (by omega); have q8 := HQ.out.has (k * 10 + 8) (by omega); have q9 := HQ.out.has (k * 10 + 9) (by omega)
      have qf := HQ.out.frozen
      have hz2 := hb2.size
      have HB2 := Lib.hid hb2
      have HBB := Lib.hid (hb.trans (hb2.mono (Nat.le_of_lt hz)))
      clear hown ho hb2
      go_wp2_with fail
      go_roundw
      case rel =>
        refine ⟨k + 1, lv ++ [⟨s, A2, l.length, c2⟩], by omega, by go_num, ?_, by simp; omega,
          NodesTo.next H0.out H3.out H2.out H4.out H5.out HP.out rfl HB2.out HOW.out hz ?_ (HQ.out.set_ _ _ |>.set_ _ _ |>.set_ _ _ |>.set_ _ _ |>.set_ _ _ |>.set_ _ _ |>.set_ _ _ |>.set_ _ _ |>.set_ _ _ |>.set_ _ _) (by simp)
            (fun j hj => by simp [Array.getElem?_setIfInBounds]; rw [if_neg (by omega), if_neg (by omega), if_neg (by omega), if_neg (by omega), if_neg (by omega), if_neg (by omega), if_neg (by omega), if_neg (by omega), if_neg (by omega), if_neg (by omega)])
            (fun j hj => by rcases (by omega : j = 0 ∨ j = 1 ∨ j = 2 ∨ j = 3 ∨ j = 4 ∨ j = 5 ∨ j = 6 ∨ j = 7 ∨ j = 8 ∨ j = 9) with rfl | rfl | rfl | rfl | rfl | rfl | rfl | rfl | rfl | rfl <;> simp [Array.getElem?_setIfInBounds, nodeC] <;> omega)⟩
        · (repeat (first | with_reducible refine Below.setCell ?_ (by first | exact Nat.le_refl _ | (simp; done) | (simp; omega)) _ | with_reducible refine Below.alloc ?_ (by first | exact Nat.le_refl _ | (simp; done) | (simp; omega)) _ | with_reducible refine Below.drew ?_)); (with_reducible exact HBB.out)
        · (repeat (first | with_reducible refine Chg.setCell ?_ (by first | exact Nat.le_refl _ | (simp; done) | (simp; omega)) (by first | (simp; done) | (simp; omega)) _ | with_reducible refine Chg.alloc ?_ _ | with_reducible refine Chg.drew ?_)); (with_reducible exact Chg.refl _ _ _)
      case measure => simp [intOf]; omega
    · obtain rfl : k = n := by omega
      have HT := Lib.hid hto
      clear hto
      go_wp2
      go_ret
      refine ⟨some ⟨w.heap.size, 0, none⟩, k, by rw [HNN.out]; rfl, ?_, hb⟩
      rw [← HNN.out]
      exact NodesTo.done HNN.out.symm (by unfold maxLen; omega) hz HT.out

set_option maxHeartbeats 2000000 in
theorem eqNodeS_same (A : Option Addr) (n c : Nat) (A' : Option Addr) (c' : Nat) (ln : List NodeD) (w : World) (hl : NodesRd w w.heap.size A n c ln) (hl' : NodesRd w w.heap.size A' n c' ln) :
    Calls Try.prog 36 #[.slice A n c, .slice A' n c'] w fun e w' => e = .returned (.bool true) ∧ Below w.heap.size w w' := by
  have hn := hl.le
  have HL := Lib.hid hl
  have HL' := Lib.hid hl'
  clear hl hl'
  go_enter Try.func36, Try.ntmps36
  go_wp2_with fail
  go_loopw [5] (fun i wr => ∃ k : Nat, k ≤ n ∧ i = .int .i64 k ∧ Below w.heap.size w wr) (fun i _ => n - (intOf i).toNat)
  case atStart => exact ⟨0, by omega, rfl, Below.refl _ _⟩
  case round =>
    obtain ⟨k, hk, rfl, hb⟩ := hrel
    have hz := hb.size
    by_cases hkn : k < n
    · obtain ⟨b, off, s, A1, n1, c1, l, rfl, hb1, hp, hr, c0, c1', c2, c3, c4, c5, c6, c7, c8, c9⟩ := (HL.out.below hb (Nat.le_refl _)).at_ hkn
      obtain ⟨b', off', s', A1', n1', c1'', l', rfl, hb1', hp', hr', d0, d1, d2, d3, d4, d5, d6, d7, d8, d9⟩ := (HL'.out.below hb (Nat.le_refl _)).at_ hkn
      rw [hp] at hp'
      simp only [Option.some.injEq, NodeD.mk.injEq] at hp'
      obtain ⟨rfl, rfl⟩ := hp'
      obtain rfl : n1 = n1' := by rw [← hr.1, ← hr'.1]
      have HR := Lib.hid (hr.more hz)
      have HR' := Lib.hid (hr'.more hz)
      clear hp hr hr'
      have hlt : b < wr.heap.size := by omega
      have hlt' : b' < wr.heap.size := by omega
      go_wp2_with fail
      refine wp_region_below (by kernel_rfl) (by kernel_rfl) ?_
      repeat (first | go_big_quiet_skip | (go_big_quiet_want; go_big_quiet_op; first | go_big_quiet_on | (apply Exists.intro; refine ⟨fun w1 hC => ?_, ?_⟩; (focus (first | rfl | (go_at_call 79; exact quiet_below hC (eqNode_same s _ _ _ _ _ l _ (by exact (HR.out.below hC (Nat.le_refl _)).more hC.size) (by exact (HR'.out.below hC (Nat.le_refl _)).more hC.size))) | (simp [(bcell hC).1, hlt, hlt', c0, c1', c2, c3, c4, c5, c6, c7, c8, c9, d0, d1, d2, d3, d4, d5, d6, d7, d8, d9]; done) | (simp [(bcell hC).1, hlt, hlt', c0, c1', c2, c3, c4, c5, c6, c7, c8, c9, d0, d1, d2, d3, d4, d5, d6, d7, d8, d9]; rfl))); go_big_quiet_on)))
      refine wpQuiet_nil ?_
      intro w2 hb2
      obtain ⟨hc2, hf2, hz2⟩ := bcell hb2
      go_wp2
      go_roundw
      case rel => exact ⟨k + 1, by omega, by go_num, hb.trans (hb2.mono hz)⟩
      case measure => simp [intOf]; omega
    · obtain rfl : k = n := by omega
      go_wp2
      go_ret
      exact ⟨rfl, hb⟩
theorem szNode_out (s : NodeS) (A : Option Addr) (n c : Nat) (left : Int) (w : World) (hn : n ≤ 9223372036854775807) (h0 : 0 ≤ left) (h1 : left ≤ 1048576) :
    Calls Try.prog 81 #[.agg #[.int .i64 s.me, .int .i64 s.round, .int .i64 s.step, .int .i64 s.lv, .int .i64 s.lr, .int .i64 s.vv, .int .i64 s.vr, .int .i64 s.polka, .int .i64 s.dec, .slice A n c], .int .i64 left] w (SzOut n left w) := by
  refine (szNode_any s A n c left w hn h0 h1).mono ?_
  rintro e w' ⟨rfl, hb⟩
  exact ⟨_, rfl, by split <;> omega, by split <;> omega, by split <;> omega, hb⟩
/-- what a count of nodes' sizes leaves -/
def SzNodes (ln : List NodeD) (left : Int) (w : World) (e : Ending) (w' : World) : Prop :=
  ∃ r : Int, e = .returned (.int .i64 r) ∧ (0 ≤ r → (ln.length : Int) ≤ left ∧ ∀ x ∈ ln, x.l.length ≤ 1048576) ∧ -1 ≤ r ∧ r ≤ left ∧ Below w.heap.size w w'
set_option maxHeartbeats 2000000 in
theorem szNodeS_any (A : Option Addr) (n c : Nat) (left : Int) (ln : List NodeD) (w : World) (hl : NodesRd w w.heap.size A n c ln) (h0 : 0 ≤ left) (h1 : left ≤ 1048576) :
    Calls Try.prog 43 #[.slice A n c, .int .i64 left] w (SzNodes ln left w) := by
  have hn := hl.le
  have hln : ln.length = n := by obtain ⟨_, _, h, _⟩ := hl; exact h
  have HLN := Lib.hid hln
  have HL := Lib.hid hl
  clear hl hln
  by_cases hlt : left < n
  · go_enter Try.func43, Try.ntmps43
    go_wp2
    go_ret
    exact ⟨-1, rfl, by omega, by omega, by omega, Below.refl _ _⟩
  go_enter Try.func43, Try.ntmps43
  go_wp2_with fail
  go_loopw [1, 5] (fun kk i wr => ∃ (j : Nat) (r : Int), j ≤ n ∧ i = .int .i64 j ∧ kk = .int .i64 r ∧ 0 ≤ r ∧ r ≤ left ∧ Below w.heap.size w wr ∧ ∀ x ∈ ln.take j, x.l.length ≤ 1048576) (fun _ i _ => n - (intOf i).toNat)
  case atStart => exact ⟨0, _, by omega, rfl, rfl, by omega, by omega, Below.refl _ _, by simp⟩
  case round =>
    obtain ⟨j, r, hj, rfl, rfl, hr0, hr1, hb, hm⟩ := hrel
    have HM := Lib.hid hm; clear hm
    have hz := hb.size
    by_cases hjn : j < n
    · obtain ⟨b, off, s, A1, n1, c1, l, rfl, hb1, hp, hr, c0, c1', c2, c3, c4, c5, c6, c7, c8, c9⟩ := (HL.out.below hb (Nat.le_refl _)).at_ hjn
      have hn1 := hr.le
      have HR := Lib.hid hr
      have HP := Lib.hid hp
      clear hp hr
      go_wp2_with fail
      refine (szNode_out s _ _ _ r _ hn1 hr0 (by omega)).mono ?_
      rintro e w1 ⟨r1, rfl, hx, hr2, hr3, hb2⟩
      have HX := Lib.hid hx; clear hx
      by_cases hneg : r1 < 0
      · go_wp2
        go_ret
        exact ⟨-1, rfl, by omega, by omega, by omega, hb.trans (hb2.mono hz)⟩
      · go_wp2
        go_roundw
        case rel =>
          refine ⟨j + 1, r1, by omega, by go_num, rfl, by omega, by omega, hb.trans (hb2.mono hz), fun x hx => ?_⟩
          rw [List.take_add_one, HP.out] at hx
          simp only [Option.toList_some, List.mem_append, List.mem_singleton] at hx
          rcases hx with hx | rfl
          · exact HM.out x hx
          · have := HX.out (by omega); have e := HR.out.1; show l.length ≤ _; omega
        case measure => simp [intOf]; omega
    · obtain rfl : j = n := by omega
      go_wp2
      go_ret
      exact ⟨r, rfl, fun _ => ⟨by rw [HLN.out]; omega, fun x hx => HM.out x (by rw [List.take_of_length_le (by rw [HLN.out]; exact Nat.le_refl _)]; exact hx)⟩, by omega, by omega, hb⟩
/-- A net handed back. -/
def NetOut (ln : List NodeD) (lp : List NMsgD) (w : World) (e : Ending) (w' : World) : Prop :=
  ∃ A c P d, e = .returned (.agg #[.slice A ln.length c, .slice P lp.length d]) ∧ NodesOwn w' w.heap.size w'.heap.size A ln.length c ln ∧ OwnL msgC 5 49 w' w.heap.size w'.heap.size P lp.length d lp ∧ Below w.heap.size w w'
set_option maxHeartbeats 1000000 in
theorem toNet_any (A : Option Addr) (c : Nat) (P : Option Addr) (d : Nat) (ln : List NodeD) (lp : List NMsgD) (w : World) (hl : NodesRd w w.heap.size A ln.length c ln) (hp : RdL msgC 5 w w.heap.size P lp.length d lp)
    (hn : ln.length ≤ 1048576) (hm : ∀ x ∈ ln, x.l.length ≤ 1048576) (hpn : lp.length ≤ 1048576) :
    Calls Try.prog 18 #[.agg #[.slice A ln.length c, .slice P lp.length d]] w (NetOut ln lp w) := by
  have HL := Lib.hid hl
  have HP := Lib.hid hp
  have HM := Lib.hid hm
  clear hl hp hm
  go_enter Try.func18, Try.ntmps18
  go_wp2_with fail
  refine (toNodeS_any A c ln _ ?_ hn HM.out).mono ?_
  · refine NodesRd.more (B := w.heap.size) ?_ (by first | (simp; done) | (simp; omega))
    repeat refine NodesRd.alloc ?_ (by first | (simp; done) | (simp; omega)) _
    exact HL.out
  rintro e w1 ⟨A1, c1, rfl, ho, hb⟩
  have HO := Lib.hid ho
  clear ho
  obtain ⟨hc, hf, hz⟩ := bcell hb
  have hz' : w.heap.size + 3 ≤ w1.heap.size := by simp at hz; omega
  have hq3 := cell_alloc3 w
  have hq4 := cell_alloc3b w
  have ta0 : w1.cell? ⟨w.heap.size, 0, none⟩ = some (.slice A ln.length c) := by rw [hc _ _ (by simp; omega), hq3]; simp
  have ta1 : w1.cell? ⟨w.heap.size, 1, none⟩ = some (.slice P lp.length d) := by rw [hc _ _ (by simp; omega), hq3]; simp
  have tr0 : w1.cell? ⟨w.heap.size + 1, 0, none⟩ = some (.slice none 0 0) := by rw [hc _ _ (by first | (simp; done) | (simp; omega)), hq4]; simp
  have tr1 : w1.cell? ⟨w.heap.size + 1, 1, none⟩ = some (.slice none 0 0) := by rw [hc _ _ (by first | (simp; done) | (simp; omega)), hq4]; simp
  have to0 : w1.cell? ⟨w.heap.size + 1 + 1, 0, none⟩ = some (.slice none 0 0) := by rw [hc _ _ (by first | (simp; done) | (simp; omega))]; exact (blk_alloc3 w _ _ _ _).cell _
  have to1 : w1.cell? ⟨w.heap.size + 1 + 1, 1, none⟩ = some (.slice none 0 0) := by rw [hc _ _ (by first | (simp; done) | (simp; omega))]; exact (blk_alloc3 w _ _ _ _).cell _
  have fr : ∀ o, w1.frozen? ⟨w.heap.size + 1, o, none⟩ = false := fun o => by rw [hf _ _ (by first | (simp; done) | (simp; omega)), frozen_alloc3b]; simp
  have fo : ∀ o, w1.frozen? ⟨w.heap.size + 1 + 1, o, none⟩ = false := fun o => by rw [hf _ _ (by first | (simp; done) | (simp; omega))]; exact (blk_alloc3 w _ _ _ _).frozen _
  have GB := Lib.hid (Below.trans (show Below w.heap.size w _ by exact (by repeat (first | exact Below.refl _ _ | assumption | refine Below.drew ?_ | refine belN ?_ _ | refine Below.alloc ?_ (by first | exact Nat.le_refl _ | (simp; done) | (simp; omega) | omega) _ | refine Below.setCell ?_ (by first | exact Nat.le_refl _ | (simp; done) | (simp; omega) | omega) _ | refine Below.trans ?_ (Below.mono (by assumption) (by first | exact Nat.le_refl _ | (simp; done) | (simp; omega) | omega))))) (Below.mono hb (by simp; omega)))
  clear hc hf hz hb hq3 hq4
  go_wp2_with fail
  refine (toNMsgS_any P lp.length d lp _ ?_ hpn).mono ?_
  · refine RdL.more (B := w.heap.size) ?_ (by first | (simp; done) | (simp; omega))
    refine RdL.below (B' := w.heap.size) HP.out ?_ (Nat.le_refl _)
    (repeat (first | with_reducible refine Below.setCell ?_ (by first | exact Nat.le_refl _ | (simp; done) | (simp; omega)) _ | with_reducible refine Below.alloc ?_ (by first | exact Nat.le_refl _ | (simp; done) | (simp; omega)) _ | with_reducible refine Below.drew ?_)); (with_reducible exact GB.out)
  intro e w2 h
  obtain ⟨P1, d1, rfl, hown, hr, hb⟩ := h.get HP.out.1
  obtain ⟨P2, d2, he, ho⟩ := OwnL.of_own HP.out.1 hown
  simp only [Value.slice.injEq, true_and] at he
  obtain ⟨rfl, rfl⟩ := he
  have HOP := Lib.hid ho
  have hs2 : w1.heap.size ≤ w2.heap.size := by have := hb.size; simpa using this
  have C2 : Hid (Chg w.heap.size (w.heap.size + 3) w1 w2) := by
    refine Chg.below_trans ?_ hb
    (repeat (first | with_reducible refine Chg.setCell ?_ (by first | exact Nat.le_refl _ | (simp; done) | (simp; omega)) (by first | (simp; done) | (simp; omega)) _ | with_reducible refine Chg.alloc ?_ _ | with_reducible refine Chg.drew ?_)); (with_reducible exact Chg.refl _ _ _)
  have hx0 : w.heap.size < w1.heap.size := by omega
  have hx1 : w.heap.size + 1 < w1.heap.size := by omega
  have hx2 : w.heap.size + 1 + 1 < w1.heap.size := by omega
  obtain ⟨hc, hf, hz⟩ := bcell hb
  have ua1 : w2.cell? ⟨w.heap.size, 1, none⟩ = some (.slice P lp.length d) := by rw [hc _ _ (by first | (simp; done) | (simp; omega))]; go_simp
  have ur0 : w2.cell? ⟨w.heap.size + 1, 0, none⟩ = some (.slice none 0 0) := by rw [hc _ _ (by first | (simp; done) | (simp; omega))]; go_simp
  have ur1 : w2.cell? ⟨w.heap.size + 1, 1, none⟩ = some (.slice none 0 0) := by rw [hc _ _ (by first | (simp; done) | (simp; omega))]; go_simp
  have uo0 : w2.cell? ⟨w.heap.size + 1 + 1, 0, none⟩ = some (.slice A1 ln.length c1) := by rw [hc _ _ (by first | (simp; done) | (simp; omega))]; go_simp
  have uo1 : w2.cell? ⟨w.heap.size + 1 + 1, 1, none⟩ = some (.slice none 0 0) := by rw [hc _ _ (by first | (simp; done) | (simp; omega))]; go_simp
  have vr : ∀ o, w2.frozen? ⟨w.heap.size + 1, o, none⟩ = false := fun o => by rw [hf _ _ (by first | (simp; done) | (simp; omega))]; go_simp
  have vo : ∀ o, w2.frozen? ⟨w.heap.size + 1 + 1, o, none⟩ = false := fun o => by rw [hf _ _ (by first | (simp; done) | (simp; omega))]; go_simp
  have GB2 : Hid (Below w.heap.size w w2) := by
    refine Below.trans ?_ (Below.mono hb (by first | (simp; done) | (simp; omega)))
    (repeat (first | with_reducible refine Below.setCell ?_ (by first | exact Nat.le_refl _ | (simp; done) | (simp; omega)) _ | with_reducible refine Below.alloc ?_ (by first | exact Nat.le_refl _ | (simp; done) | (simp; omega)) _ | with_reducible refine Below.drew ?_)); (with_reducible exact GB.out)
  clear hc hf hz hb h hown hr ho ta0 ta1 tr0 tr1 to0 to1 fr fo
  go_wp2
  refine bodyPost_ret (v := .agg #[.slice A1 ln.length c1, .slice P1 lp.length d1]) (by simp [results, Try.results18, go_sem, ur0, ur1]) rfl ⟨A1, c1, P1, d1, rfl, ?_, ?_, ?_⟩
  · refine ((HO.out.chg C2.out (.inr (by simp))).chg (lo' := w.heap.size) (hi' := w.heap.size + 3) ?_ (.inr (by simp))).wide (by simp; omega) (by simp; omega)
    (repeat (first | with_reducible refine Chg.setCell ?_ (by first | exact Nat.le_refl _ | (simp; done) | (simp; omega)) (by first | (simp; done) | (simp; omega)) _ | with_reducible refine Chg.alloc ?_ _ | with_reducible refine Chg.drew ?_)); (with_reducible exact Chg.refl _ _ _)
  · refine (HOP.out.chg (lo' := w.heap.size) (hi' := w.heap.size + 3) ?_ (.inr (by simp; omega))).wide (by simp; omega) (by simp)
    (repeat (first | with_reducible refine Chg.setCell ?_ (by first | exact Nat.le_refl _ | (simp; done) | (simp; omega)) (by first | (simp; done) | (simp; omega)) _ | with_reducible refine Chg.alloc ?_ _ | with_reducible refine Chg.drew ?_)); (with_reducible exact Chg.refl _ _ _)
  · (repeat (first | with_reducible refine Below.setCell ?_ (by first | exact Nat.le_refl _ | (simp; done) | (simp; omega)) _ | with_reducible refine Below.alloc ?_ (by first | exact Nat.le_refl _ | (simp; done) | (simp; omega)) _ | with_reducible refine Below.drew ?_)); (with_reducible exact GB2.out)

set_option maxHeartbeats 1000000 in
theorem eqNet_same (A : Option Addr) (n c : Nat) (P : Option Addr) (p d : Nat) (A' : Option Addr) (c' : Nat) (P' : Option Addr) (d' : Nat) (ln : List NodeD) (lp : List NMsgD) (w : World)
    (hl : NodesRd w w.heap.size A n c ln) (hp : RdL msgC 5 w w.heap.size P p d lp) (hl' : NodesRd w w.heap.size A' n c' ln) (hp' : RdL msgC 5 w w.heap.size P' p d' lp) :
    Calls Try.prog 11 #[.agg #[.slice A n c, .slice P p d], .agg #[.slice A' n c', .slice P' p d']] w fun e w' => e = .returned (.bool true) ∧ Below w.heap.size w w' := by
  have HL := Lib.hid hl
  have HL' := Lib.hid hl'
  have HP := Lib.hid hp
  have HP' := Lib.hid hp'
  clear hl hl' hp hp'
  go_enter Try.func11, Try.ntmps11
  go_wp2_with fail
  refine (eqNodeS_same A n c A' c' ln _ ?_ ?_).mono ?_
  · refine NodesRd.more (B := w.heap.size) ?_ (by first | (simp; done) | (simp; omega))
    repeat refine NodesRd.alloc ?_ (by first | (simp; done) | (simp; omega)) _
    exact HL.out
  · refine NodesRd.more (B := w.heap.size) ?_ (by first | (simp; done) | (simp; omega))
    repeat refine NodesRd.alloc ?_ (by first | (simp; done) | (simp; omega)) _
    exact HL'.out
  rintro e w1 ⟨rfl, hb⟩; obtain ⟨hc, hf, hz⟩ := bcell hb
  have hy : w.heap.size + 2 ≤ w1.heap.size := by simp at hz; omega
  have hy0 : w.heap.size < w1.heap.size := by omega
  have hy1 : w.heap.size + 1 < w1.heap.size := by omega
  have HB : Hid (Below w.heap.size w w1) := (by repeat (first | exact Below.refl _ _ | assumption | refine Below.drew ?_ | refine belN ?_ _ | refine Below.alloc ?_ (by first | exact Nat.le_refl _ | (simp; done) | (simp; omega) | omega) _ | refine Below.setCell ?_ (by first | exact Nat.le_refl _ | (simp; done) | (simp; omega) | omega) _ | refine Below.trans ?_ (Below.mono (by assumption) (by first | exact Nat.le_refl _ | (simp; done) | (simp; omega) | omega))))
  go_wp2_with fail
  refine (eqNMsgS_same P p d P' d' lp _ ((HP.out.below HB.out (Nat.le_refl _)).more HB.out.size) ((HP'.out.below HB.out (Nat.le_refl _)).more HB.out.size)).mono ?_
  rintro e w3 ⟨rfl, hb3⟩
  go_wp2
  go_ret
  exact ⟨rfl, HB.out.trans (hb3.mono HB.out.size)⟩
def SzNet (ln : List NodeD) (lp : List NMsgD) (left : Int) (w : World) (e : Ending) (w' : World) : Prop :=
  ∃ r : Int, e = .returned (.int .i64 r) ∧ (0 ≤ r → ln.length ≤ 1048576 ∧ (∀ x ∈ ln, x.l.length ≤ 1048576) ∧ lp.length ≤ 1048576) ∧ -1 ≤ r ∧ r ≤ left ∧ Below w.heap.size w w'
set_option maxHeartbeats 1000000 in
theorem szNet_any (A : Option Addr) (n c : Nat) (P : Option Addr) (p d : Nat) (left : Int) (ln : List NodeD) (lp : List NMsgD) (w : World) (hl : NodesRd w w.heap.size A n c ln) (hp : RdL msgC 5 w w.heap.size P p d lp) (h0 : 0 ≤ left) (h1 : left ≤ 1048576) :
    Calls Try.prog 16 #[.agg #[.slice A n c, .slice P p d], .int .i64 left] w (SzNet ln lp left w) := by
  have HL := Lib.hid hl
  have HP := Lib.hid hp
  have hpn := hp.le
  clear hl hp
  go_enter Try.func16, Try.ntmps16
  go_wp2_with fail
  refine (szNodeS_any A n c left ln _ ?_ h0 h1).mono ?_
  · refine NodesRd.more (B := w.heap.size) ?_ (by first | (simp; done) | (simp; omega))
    repeat refine NodesRd.alloc ?_ (by first | (simp; done) | (simp; omega)) _
    exact HL.out
  rintro e w1 ⟨r, rfl, hr1, hr2, hr3, hb⟩; obtain ⟨hc, hf, hz⟩ := bcell hb
  have HR := Lib.hid hr1; clear hr1
  have hy : w.heap.size + 1 ≤ w1.heap.size := by simp at hz; omega
  have hy0 : w.heap.size < w1.heap.size := by omega
  have HB : Hid (Below w.heap.size w w1) := (by repeat (first | exact Below.refl _ _ | assumption | refine Below.drew ?_ | refine belN ?_ _ | refine Below.alloc ?_ (by first | exact Nat.le_refl _ | (simp; done) | (simp; omega) | omega) _ | refine Below.setCell ?_ (by first | exact Nat.le_refl _ | (simp; done) | (simp; omega) | omega) _ | refine Below.trans ?_ (Below.mono (by assumption) (by first | exact Nat.le_refl _ | (simp; done) | (simp; omega) | omega))))
  by_cases hr : r < 0
  · go_wp2
    go_ret
    exact ⟨-1, rfl, by omega, by omega, by omega, HB.out⟩
  have hr0 : 0 ≤ r := by omega
  by_cases hq : r < p
  · go_wp2_with (go_at_call 44; go_must (refine (szNMsgS_any P p d r _ hpn hr0 (by omega)).mono ?_); go_must (rw [if_pos hq]); rintro e w' ⟨rfl, rfl⟩)
    go_ret
    exact ⟨-1, rfl, by omega, by omega, by omega, HB.out⟩
  · go_wp2_with (go_at_call 44; go_must (refine (szNMsgS_any P p d r _ hpn hr0 (by omega)).mono ?_); go_must (rw [if_neg (show ¬ (r < (p : Int)) by omega)]); rintro e w' ⟨rfl, rfl⟩)
    go_ret
    refine ⟨r - p, rfl, fun _ => ⟨by have := (HR.out hr0).1; omega, (HR.out hr0).2, by rw [HP.out.1]; omega⟩, by omega, by omega, HB.out⟩
end Go.Proofs.Ytjgaelnonacdkaa
