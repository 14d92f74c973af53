/- Marks of nodes and nets (written by wip/nmk.py). -/
import Derived.Deep.DeepMust
import Derived.WalkKit
import Derived.WalkSpells
import Derived.WalkLawsBesides
import Derived.Lib.Hide
import Derived.Test.YtjgaelnonacdkaaMNetFam
import Derived.Test.YtjgaelnonacdkaaMMkNMsg
namespace Go.Proofs.Ytjgaelnonacdkaa
open Go.RowKit

def szND (ln : List NodeD) : Nat := (ln.map fun x => 9 + x.l.length * 5).sum
theorem szND_next {ln : List NodeD} {j : Nat} {x : NodeD} (h : ln[j]? = some x) : szND (ln.take (j + 1)) = szND (ln.take j) + (9 + x.l.length * 5) := by
  unfold szND
  rw [List.take_add_one, h]
  simp
theorem szND_le (ln : List NodeD) (j : Nat) : szND (ln.take j) ≤ szND ln := by
  have : szND ln = szND (ln.take j) + szND (ln.drop j) := by
    unfold szND
    rw [← List.sum_append, ← List.map_append, List.take_append_drop]
  omega
def markND (k : Nat) (x : NodeD) : NodeD := ⟨⟨(k : Int), (k : Int) + 1, (k : Int) + 1 + 1, (k : Int) + 1 + 1 + 1, (k : Int) + 1 + 1 + 1 + 1, (k : Int) + 1 + 1 + 1 + 1 + 1, (k : Int) + 1 + 1 + 1 + 1 + 1 + 1, (k : Int) + 1 + 1 + 1 + 1 + 1 + 1 + 1, (k : Int) + 1 + 1 + 1 + 1 + 1 + 1 + 1 + 1⟩, marksNMsg (k + 9) x.l.length⟩
/-- the first j nodes bear marks from k on -/
def MixD (k : Nat) (ln : List NodeD) (j : Nat) (lm : List NodeD) : Prop :=
  lm.length = ln.length ∧ ∀ (i : Nat) (x : NodeD), ln[i]? = some x → lm[i]? = some (if i < j then markND (k + szND (ln.take i)) x else x)
theorem MixD.zero (k : Nat) (ln : List NodeD) : MixD k ln 0 ln := ⟨rfl, fun i x h => by simpa using h⟩
theorem MixD.next {k : Nat} {ln lm : List NodeD} {j : Nat} {x : NodeD} (h : MixD k ln j lm) (hx : ln[j]? = some x) : MixD k ln (j + 1) (lm.set j (markND (k + szND (ln.take j)) x)) := by
  obtain ⟨h1, h2⟩ := h
  have hj : j < lm.length := by rw [h1]; exact (List.getElem?_eq_some_iff.1 hx).1
  refine ⟨by simpa using h1, fun i y hy => ?_⟩
  rw [List.getElem?_set]
  by_cases hij : j = i
  · subst hij
    rw [hx] at hy
    injection hy with hy
    subst hy
    simp [hj]
  · rw [if_neg hij, h2 i y hy]
    by_cases hlt : i < j
    · rw [if_pos hlt, if_pos (by omega)]
    · rw [if_neg hlt, if_neg (by omega)]

/-- A row of nodes of one's own in block g, cell by cell. -/
structure NodesAt (w : World) (lo hi g n c : Nat) (cur : Array Value) (lv : List NodeV) (lm : List NodeD) : Prop where
  len : lv.length = n
  lenm : lm.length = n
  low : lo ≤ g
  high : g < hi
  blk : Blk w g 79 cur
  cap : n ≤ c
  max : c ≤ maxLen
  size : cur.size = c * 10
  cells : ∀ (i : Nat) (v : NodeV), lv[i]? = some v → ∀ q, q < 10 → cur[i * 10 + q]? = (nodeC v)[q]?
  msgs : ∀ (i : Nat) (v : NodeV), lv[i]? = some v → ∃ x : NodeD, lm[i]? = some x ∧ v.s = x.s ∧ OwnL msgC 5 49 w lo hi v.A v.n v.c x.l
  apart : ∀ (i j : Nat) (vi vj : NodeV) (g : Nat), lv[i]? = some vi → lv[j]? = some vj → vi.A = some ⟨g, 0, none⟩ → vj.A = some ⟨g, 0, none⟩ → i = j

theorem flat_of_at {α : Type} (f : α → List Value) (size : Nat) (hf : ∀ x, (f x).length = size) (l : List α) (cur : Array Value) (h : ∀ (i : Nat) (v : α), l[i]? = some v → ∀ q, q < size → cur[i * size + q]? = (f v)[q]?) (hs : 0 < size) :
    ∀ j, j < l.length * size → cur[j]? = (l.flatMap f)[j]? := by
  intro j hj
  have h1 : j / size < l.length := by rw [Nat.div_lt_iff_lt_mul hs]; exact hj
  have hx : l[j / size]? = some l[j / size] := List.getElem?_eq_getElem h1
  have h2 := h _ _ hx (j % size) (Nat.mod_lt _ hs)
  have h3 := flat_at f size l (fun x _ => hf x) (j / size) (j % size) _ hx (Nat.mod_lt _ hs)
  have e : j / size * size + j % size = j := by rw [Nat.mul_comm]; exact Nat.div_add_mod j size
  rw [e] at h2 h3
  rw [h2, h3]
theorem NodesOwn.at_g {w : World} {lo hi n c : Nat} {A : Option Addr} {ln : List NodeD} (h : NodesOwn w lo hi A n c ln) :
    (n = 0 ∧ A = none ∧ c = 0 ∧ ln = []) ∨ ∃ g cur lv, A = some ⟨g, 0, none⟩ ∧ NodesAt w lo hi g n c cur lv ln := by
  obtain ⟨lv, ⟨h1, h0 | ⟨g, cur, rfl, a, b, d, e1, e2, e3, e4⟩⟩, h2, h3, h4⟩ := h
  · obtain ⟨rfl, rfl, rfl⟩ := h0
    exact .inl ⟨rfl, rfl, rfl, List.length_eq_zero_iff.1 h2⟩
  · refine .inr ⟨g, cur, lv, rfl, h1, h2, a, b, d, e1, e2, e3, fun i v hv q hq => ?_, h3, h4⟩
    have hi' : i < n := by rw [← h1]; exact (List.getElem?_eq_some_iff.1 hv).1
    have hm := Nat.mul_le_mul_right 10 hi'
    rw [e4 (i * 10 + q) (by omega), flat_at nodeC 10 lv (fun x _ => nodeC_len x) i q v hv hq]
theorem NodesAt.own {w : World} {lo hi g n c : Nat} {cur : Array Value} {lv : List NodeV} {lm : List NodeD} (h : NodesAt w lo hi g n c cur lv lm) : NodesOwn w lo hi (some ⟨g, 0, none⟩) n c lm := by
  refine ⟨lv, ⟨h.len, .inr ⟨g, cur, rfl, h.low, h.high, h.blk, h.cap, h.max, h.size, fun j hj => ?_⟩⟩, h.lenm, h.msgs, h.apart⟩
  exact flat_of_at nodeC 10 nodeC_len lv cur h.cells (by decide) j (by rw [h.len]; exact hj)
/-- a row of one's own, its block alone -/
theorem OwnL.narrow {α : Type} {f : α → List Value} {size : Nat} {t : TypeId} {w : World} {lo hi : Nat} {A : Option Addr} {n c : Nat} {l : List α} (h : OwnL f size t w lo hi A n c l) :
    ∃ a b, OwnL f size t w a b A n c l ∧ (a = b ∨ (b = a + 1 ∧ A = some ⟨a, 0, none⟩ ∧ lo ≤ a ∧ a < hi ∧ ∃ cs, Blk w a t cs)) := by
  obtain ⟨hl, h0 | ⟨g, cur, rfl, b, d, e, e'⟩⟩ := h
  · exact ⟨0, 0, ⟨hl, .inl h0⟩, .inl rfl⟩
  · exact ⟨g, g + 1, ⟨hl, .inr ⟨g, cur, rfl, Nat.le_refl _, by omega, e, e'⟩⟩, .inr ⟨rfl, rfl, b, d, cur, e⟩⟩
theorem Blk.ne {w : World} {g g' : Nat} {t t' : TypeId} {cs cs' : Array Value} (h : Blk w g t cs) (h' : Blk w g' t' cs') (ht : t ≠ t') : g ≠ g' := by
  intro e
  subst e
  unfold Blk at h h'
  rw [h] at h'
  injection h' with h'
  injection h' with _ h'
  exact ht h'

/-- node j's own cells turned, then its messages -/
theorem NodesAt.step {w w2 w3 : World} {lo hi g n c : Nat} {cur cur' : Array Value} {lv : List NodeV} {lm : List NodeD} (h : NodesAt w lo hi g n c cur lv lm) {j : Nat} {v : NodeV} (s' : NodeS) {l' : List NMsgD} (hv : lv[j]? = some v)
    (hc : Chg g (g + 1) w w2) (hblk : Blk w2 g 79 cur') (hsz : cur'.size = cur.size) (h1 : ∀ i, (i < j * 10 ∨ j * 10 + 10 ≤ i) → cur'[i]? = cur[i]?) (h2 : ∀ q, q < 10 → cur'[j * 10 + q]? = (nodeC ⟨s', v.A, v.n, v.c⟩)[q]?)
    {a b : Nat} (hab : a = b ∨ (b = a + 1 ∧ v.A = some ⟨a, 0, none⟩ ∧ lo ≤ a ∧ a < hi ∧ ∃ cs, Blk w a 49 cs)) (hm : Chg a b w2 w3) (hl : OwnL msgC 5 49 w3 a b v.A v.n v.c l') :
    NodesAt w3 lo hi g n c cur' (lv.set j ⟨s', v.A, v.n, v.c⟩) (lm.set j ⟨s', l'⟩) ∧ Chg lo hi w w3 := by
  have hgw := h.blk.lt
  have hgw2 : g < w2.heap.size := hblk.lt
  have hnt : (79 : TypeId) ≠ 49 := by decide
  have hga : g < a ∨ b ≤ g := by
    rcases hab with rfl | ⟨rfl, _, _, _, cs, hcs⟩
    · omega
    · have := h.blk.ne hcs hnt; omega
  have hj : j < n := by rw [← h.len]; exact (List.getElem?_eq_some_iff.1 hv).1
  have kept : ∀ k, k < w.heap.size → k ≠ g → (k < a ∨ b ≤ k) → w3.heap[k]? = w.heap[k]? := fun k h1 h2 h3 => by
    have := hc.size
    rw [hm.block k (by omega) h3, hc.block k h1 (by omega)]
  refine ⟨⟨by simpa using h.len, by simpa using h.lenm, h.low, h.high, (hm.block g hgw2 hga).trans hblk, h.cap, h.max, by rw [hsz, h.size], fun i u hu q hq => ?_, fun i u hu => ?_, fun i k vi vk q hi' hk ei ek => ?_⟩,
    ⟨hm.os.trans hc.os, hm.tape.trans hc.tape, hm.output.trans hc.output, Nat.le_trans hc.size hm.size, fun k hk hs => kept k hk (by have := h.low; have := h.high; omega) (by
      rcases hab with rfl | ⟨rfl, _, h3, h4, _⟩
      · omega
      · omega)⟩⟩
  · rw [List.getElem?_set] at hu
    by_cases hij : j = i
    · subst hij
      rw [if_pos rfl, if_pos (by rw [h.len]; exact hj)] at hu
      injection hu with hu
      subst hu
      exact h2 q hq
    · rw [if_neg hij] at hu
      have hi' : i < n := by rw [← h.len]; exact (List.getElem?_eq_some_iff.1 hu).1
      rw [h1 _ (by omega)]
      exact h.cells i u hu q hq
  · rw [List.getElem?_set] at hu
    by_cases hij : j = i
    · subst hij
      rw [if_pos rfl, if_pos (by rw [h.len]; exact hj)] at hu
      injection hu with hu
      subst hu
      refine ⟨⟨s', l'⟩, by rw [List.getElem?_set, if_pos rfl, if_pos (by rw [h.lenm]; exact hj)], rfl, ?_⟩
      rcases hab with rfl | ⟨rfl, hA, h3, h4, _⟩
      · obtain ⟨hl1, hl0 | ⟨g1, _, _, q1, q2, _⟩⟩ := hl
        · exact ⟨hl1, .inl hl0⟩
        · omega
      · exact hl.wide h3 (by omega)
    · rw [if_neg hij] at hu
      obtain ⟨x, p1, p2, p3⟩ := h.msgs i u hu
      refine ⟨x, by rw [List.getElem?_set, if_neg hij]; exact p1, p2, p3.keep fun k k1 k2 ke => ?_⟩
      have hkA : u.A = some ⟨k, 0, none⟩ ∧ ∃ cs, Blk w k 49 cs := by
        obtain ⟨_, ⟨_, e0, _⟩ | ⟨g1, cs, e1, _, _, e2, _⟩⟩ := p3
        · rw [e0] at ke; simp [Value.ownBlock] at ke
        · rw [e1] at ke
          simp [Value.ownBlock] at ke
          subst ke
          exact ⟨e1, cs, e2⟩
      obtain ⟨kA, cs, kb⟩ := hkA
      have hkg : k ≠ g := fun e => h.blk.ne kb hnt e.symm
      refine kept k kb.lt hkg ?_
      rcases hab with rfl | ⟨rfl, hA, _⟩
      · omega
      · by_cases hka : k = a
        · subst hka
          exact absurd (h.apart j i v u k hv hu hA kA) hij
        · omega
  · rw [List.getElem?_set] at hi' hk
    have old : ∀ (i : Nat) (vi : NodeV), (if j = i then (if j < lv.length then some (⟨s', v.A, v.n, v.c⟩ : NodeV) else none) else lv[i]?) = some vi → ∃ u, lv[i]? = some u ∧ u.A = vi.A := by
      intro i vi hu
      by_cases hij : j = i
      · subst hij
        rw [if_pos rfl, if_pos (by rw [h.len]; exact hj)] at hu
        injection hu with hu
        subst hu
        exact ⟨v, hv, rfl⟩
      · rw [if_neg hij] at hu
        exact ⟨vi, hu, rfl⟩
    obtain ⟨u1, o1, o2⟩ := old i vi hi'
    obtain ⟨u2, o3, o4⟩ := old k vk hk
    exact h.apart i k u1 u2 q o1 o3 (o2.trans ei) (o4.trans ek)

/-- boxes of nets stay -/
def KeepB (w w' : World) : Prop := ∀ q cs, Blk w q 27 cs → Blk w' q 27 cs
theorem KeepB.refl (w : World) : KeepB w w := fun _ _ h => h
theorem KeepB.trans {a b c : World} (h : KeepB a b) (k : KeepB b c) : KeepB a c := fun q cs e => k q cs (h q cs e)
theorem KeepB.below {a b : World} (h : Below a.heap.size a b) : KeepB a b := fun _ _ e => e.below h e.lt
theorem KeepB.chg {a b : World} {g t : Nat} {cu : Array Value} (h : Chg g (g + 1) a b) (hb : Blk a g t cu) (ht : t ≠ 27) : KeepB a b := fun q cs e => by
  have := hb.ne e ht
  exact (h.block q e.lt (by omega)).trans e
theorem KeepB.none {a b : World} {g : Nat} (h : Chg g g a b) : KeepB a b := fun q cs e => (h.block q e.lt (by omega)).trans e
set_option maxRecDepth 100000 in
set_option maxHeartbeats 4000000 in
theorem markNodeS_keep (A : Option Addr) (n c : Nat) (ln : List NodeD) (lo hi k : Nat) (w : World) (h : NodesOwn w lo hi A n c ln) (hk0 : 0 < k) (hn : n ≤ 1048576) (hk : k + szND ln ≤ 10000000) :
    Calls Try.prog 39 #[.slice A n c, .int .i64 k] w fun e w' => KeepB w w' ∧ e = .returned (.int .i64 ((k + szND ln : Nat) : Int)) ∧ Chg lo hi w w' ∧ ∃ lm, NodesOwn w' lo hi A n c lm ∧ MixD k ln n lm := by
  rcases h.at_g with ⟨rfl, rfl, rfl, rfl⟩ | ⟨g, cur0, lv0, rfl, h0⟩
  · go_enter Try.func39, Try.ntmps39
    go_wp2_with fail
    go_loop [1, 5] (fun kk i => kk = .int .i64 (k : Int) ∧ i = .int .i64 0) (fun _ _ => 0)
    case atStart => exact ⟨rfl, rfl⟩
    case round =>
    obtain ⟨rfl, rfl⟩ := hrel
    go_wp2
    go_ret
    exact ⟨KeepB.refl _, by simp [szND], Chg.refl _ _ _, [], h, MixD.zero _ _⟩
  · have hln : ln.length = n := h0.lenm
    have H0 := Lib.hid h0
    have HLN := Lib.hid hln
    have hn' : n ≤ 9223372036854775807 := by omega
    clear h0 h hln
    go_enter Try.func39, Try.ntmps39
    go_wp2_with fail
    go_loopw [1, 5] (fun kk i wr => ∃ (j : Nat) (cur : Array Value) (lv : List NodeV) (lm : List NodeD), j ≤ n ∧ i = .int .i64 j ∧ kk = .int .i64 ((k + szND (ln.take j) : Nat) : Int) ∧ KeepB w wr ∧ Chg lo hi w wr ∧ NodesAt wr lo hi g n c cur lv lm ∧ MixD k ln j lm) (fun _ i _ => n - (intOf i).toNat)
    case atStart => exact ⟨0, cur0, lv0, ln, by omega, rfl, by simp [szND], KeepB.refl _, Chg.refl _ _ _, H0.out, MixD.zero _ _⟩
    case round =>
      obtain ⟨j, cur, lv, lm, hj, rfl, rfl, hkp, hb, h1, h2⟩ := hrel
      have KP := Lib.hid hkp
      clear hkp
      have HB := Lib.hid hb; have H1 := Lib.hid h1; have H2 := Lib.hid h2
      have hle := szND_le ln j
      generalize hq : k + szND (ln.take j) = q
      have HQ := Lib.hid hq
      have hq1 : q ≤ 10000000 := by omega
      have hq0 : 0 < q := by omega
      have hgr := h1.blk.lt
      have qf := h1.blk.frozen
      clear hb h1 h2 hq hle
      by_cases hjn : j < n
      · obtain ⟨v, hv⟩ : ∃ v, lv[j]? = some v := ⟨_, List.getElem?_eq_getElem (by rw [H1.out.len]; exact hjn)⟩
        obtain ⟨x, hx⟩ : ∃ x, ln[j]? = some x := ⟨_, List.getElem?_eq_getElem (by rw [HLN.out]; exact hjn)⟩
        obtain ⟨x', hx', hs, hm⟩ := H1.out.msgs j v hv
        obtain rfl : x = x' := by
          have := H2.out.2 j x hx
          rw [if_neg (by omega), hx'] at this
          exact (Option.some.inj this).symm
        obtain ⟨a, b, hw, hab⟩ := hm.narrow
        have HV := Lib.hid hv; have HX := Lib.hid hx; have HS := Lib.hid hs; have HM := Lib.hid hw; have HAB := Lib.hid hab
        have hvn : x.l.length = v.n := hm.1
        have hsn := szND_next hx
        have hle1 := szND_le ln (j + 1)
        have HSN : Hid (k + szND (ln.take (j + 1)) = q + 9 + v.n * 5) := by show _ = _; have := HQ.out; omega
        have hvb : v.n ≤ 2097152 := by have := HSN.out; omega
        have hqb : q + 9 ≤ 100000000 := by omega
        have hsz : j * 10 + 10 ≤ cur.size := by rw [H1.out.size]; have := H1.out.cap; have := Nat.mul_le_mul_right 10 (show j + 1 ≤ c by omega); omega
        have HVN := Lib.hid hvn
        have hcell9 : wr.cell? ⟨g, j * 10 + 9, none⟩ = some (.slice v.A v.n v.c) := by rw [H1.out.blk.cell, H1.out.cells j v hv 9 (by omega)]; rfl
        have hag : g < a ∨ b ≤ g := by
          rcases hab with rfl | ⟨rfl, _, _, _, cs, hcs⟩
          · omega
          · have := H1.out.blk.ne hcs (by decide); omega
        clear hv hx hs hm hw hab hvn hsn hle1 hx'
        have q0 := H1.out.blk.has (j * 10) (by omega)
        have q1 := H1.out.blk.has (j * 10 + 1) (by omega)
        have q2 := H1.out.blk.has (j * 10 + 2) (by omega)
        have q3 := H1.out.blk.has (j * 10 + 3) (by omega)
        have q4 := H1.out.blk.has (j * 10 + 4) (by omega)
        have q5 := H1.out.blk.has (j * 10 + 5) (by omega)
        have q6 := H1.out.blk.has (j * 10 + 6) (by omega)
        have q7 := H1.out.blk.has (j * 10 + 7) (by omega)
        have q8 := H1.out.blk.has (j * 10 + 8) (by omega)
        go_wp2_with fail
        obtain ⟨w2, hw2⟩ : ∃ z, z = (((((((((wr.setCell ⟨g, j * 10, none⟩ (.int .i64 ((q : Int)))).setCell ⟨g, j * 10 + 1, none⟩ (.int .i64 ((q : Int) + 1))).setCell ⟨g, j * 10 + 2, none⟩ (.int .i64 ((q : Int) + 1 + 1))).setCell ⟨g, j * 10 + 3, none⟩ (.int .i64 ((q : Int) + 1 + 1 + 1))).setCell ⟨g, j * 10 + 4, none⟩ (.int .i64 ((q : Int) + 1 + 1 + 1 + 1))).setCell ⟨g, j * 10 + 5, none⟩ (.int .i64 ((q : Int) + 1 + 1 + 1 + 1 + 1))).setCell ⟨g, j * 10 + 6, none⟩ (.int .i64 ((q : Int) + 1 + 1 + 1 + 1 + 1 + 1))).setCell ⟨g, j * 10 + 7, none⟩ (.int .i64 ((q : Int) + 1 + 1 + 1 + 1 + 1 + 1 + 1))).setCell ⟨g, j * 10 + 8, none⟩ (.int .i64 ((q : Int) + 1 + 1 + 1 + 1 + 1 + 1 + 1 + 1))) := ⟨_, rfl⟩
        rw [← hw2]
        have CW : Hid (Chg g (g + 1) wr w2) := by show Chg _ _ _ _; rw [hw2]; exact ((((((((((Chg.refl g (g + 1) wr).setCell (Nat.le_refl _) (Nat.lt_succ_self _) _).setCell (Nat.le_refl _) (Nat.lt_succ_self _) _).setCell (Nat.le_refl _) (Nat.lt_succ_self _) _).setCell (Nat.le_refl _) (Nat.lt_succ_self _) _).setCell (Nat.le_refl _) (Nat.lt_succ_self _) _).setCell (Nat.le_refl _) (Nat.lt_succ_self _) _).setCell (Nat.le_refl _) (Nat.lt_succ_self _) _).setCell (Nat.le_refl _) (Nat.lt_succ_self _) _).setCell (Nat.le_refl _) (Nat.lt_succ_self _) _)
        have BW : Hid (Blk w2 g 79 (((((((((cur.setIfInBounds (j * 10) (.int .i64 ((q : Int)))).setIfInBounds (j * 10 + 1) (.int .i64 ((q : Int) + 1))).setIfInBounds (j * 10 + 2) (.int .i64 ((q : Int) + 1 + 1))).setIfInBounds (j * 10 + 3) (.int .i64 ((q : Int) + 1 + 1 + 1))).setIfInBounds (j * 10 + 4) (.int .i64 ((q : Int) + 1 + 1 + 1 + 1))).setIfInBounds (j * 10 + 5) (.int .i64 ((q : Int) + 1 + 1 + 1 + 1 + 1))).setIfInBounds (j * 10 + 6) (.int .i64 ((q : Int) + 1 + 1 + 1 + 1 + 1 + 1))).setIfInBounds (j * 10 + 7) (.int .i64 ((q : Int) + 1 + 1 + 1 + 1 + 1 + 1 + 1))).setIfInBounds (j * 10 + 8) (.int .i64 ((q : Int) + 1 + 1 + 1 + 1 + 1 + 1 + 1 + 1)))) := by show Blk _ _ _ _; rw [hw2]; exact (((((((((H1.out.blk.set_ _ _).set_ _ _).set_ _ _).set_ _ _).set_ _ _).set_ _ _).set_ _ _).set_ _ _).set_ _ _)
        clear hw2
        have KP2 := Lib.hid (KP.out.trans (KeepB.chg CW.out H1.out.blk (by decide)))
        have HMM : Hid (OwnL msgC 5 49 w2 a b v.A v.n v.c x.l) := Lib.hid (HM.out.chg CW.out (by omega))
        refine (markNMsgS_any 49 v.A v.n v.c x.l a b (q + 9) _ HMM.out (by omega) hvb hqb).mono ?_
        rintro e w3 ⟨rfl, ho, hg⟩
        have HO := Lib.hid ho
        have HG := Lib.hid hg
        have KP3 : Hid (KeepB w w3) := Lib.hid (KP2.out.trans (by
          rcases HAB.out with e | ⟨rfl, _, _, _, cs, hcs⟩
          · subst e; exact KeepB.none hg
          · exact KeepB.chg hg ((CW.out.block _ hcs.lt (by have := H1.out.blk.ne hcs (by decide); omega)).trans hcs) (by decide)))
        clear ho hg
        obtain ⟨hst, hch⟩ := H1.out.step ⟨(q : Int), (q : Int) + 1, (q : Int) + 1 + 1, (q : Int) + 1 + 1 + 1, (q : Int) + 1 + 1 + 1 + 1, (q : Int) + 1 + 1 + 1 + 1 + 1, (q : Int) + 1 + 1 + 1 + 1 + 1 + 1, (q : Int) + 1 + 1 + 1 + 1 + 1 + 1 + 1, (q : Int) + 1 + 1 + 1 + 1 + 1 + 1 + 1 + 1⟩ HV.out CW.out BW.out (by simp) (fun i hi => by simp [Array.getElem?_setIfInBounds]; rw [if_neg (by omega), if_neg (by omega), if_neg (by omega), if_neg (by omega), if_neg (by omega), if_neg (by omega), if_neg (by omega), if_neg (by omega), if_neg (by omega)]) (fun i hi => by rcases (by omega : i = 0 ∨ i = 1 ∨ i = 2 ∨ i = 3 ∨ i = 4 ∨ i = 5 ∨ i = 6 ∨ i = 7 ∨ i = 8 ∨ i = 9) with rfl | rfl | rfl | rfl | rfl | rfl | rfl | rfl | rfl | rfl <;> simp [Array.getElem?_setIfInBounds, nodeC] <;> first | omega | exact (H1.out.cells j v HV.out 9 (by omega))) HAB.out HG.out HO.out
        have HST := Lib.hid hst
        have HCH := Lib.hid hch
        clear hst hch
        go_wp2_with fail
        go_roundw
        case rel =>
          refine ⟨j + 1, _, _, _, by omega, by go_num, by rw [HSN.out]; go_num, KP3.out, HB.out.trans HCH.out, HST.out, ?_⟩
          have := H2.out.next HX.out
          rw [HQ.out] at this
          unfold markND at this
          rw [HVN.out] at this
          exact this
        case measure => simp [intOf]; omega
      · obtain rfl : j = n := by omega
        go_wp2
        go_ret
        refine ⟨KP.out, ?_, HB.out, lm, H1.out.own, H2.out⟩
        rw [← HQ.out, List.take_of_length_le (by rw [HLN.out]; exact Nat.le_refl _)]; rfl
theorem markNodeS_any (A : Option Addr) (n c : Nat) (ln : List NodeD) (lo hi k : Nat) (w : World) (h : NodesOwn w lo hi A n c ln) (hk0 : 0 < k) (hn : n ≤ 1048576) (hk : k + szND ln ≤ 10000000) :
    Calls Try.prog 39 #[.slice A n c, .int .i64 k] w fun e w' => e = .returned (.int .i64 ((k + szND ln : Nat) : Int)) ∧ Chg lo hi w w' ∧ ∃ lm, NodesOwn w' lo hi A n c lm ∧ MixD k ln n lm :=
  (markNodeS_keep A n c ln lo hi k w h hk0 hn hk).mono fun _ _ h => h.2

set_option maxRecDepth 100000 in
set_option maxHeartbeats 4000000 in
theorem heldNodeS_any (A : Option Addr) (n c : Nat) (ln lm : List NodeD) (k : Nat) (w : World) (h : NodesRd w w.heap.size A n c lm) (hm : MixD k ln n lm) (hk0 : 0 < k) (hn : n ≤ 1048576) (hk : k + szND ln ≤ 10000000) :
    Calls Try.prog 41 #[.slice A n c, .int .i64 k] w fun e w' => e = .returned (.int .i64 ((k + szND ln : Nat) : Int)) ∧ Below w.heap.size w w' := by
  have hln : ln.length = n := by obtain ⟨_, _, h, _⟩ := h; rw [← hm.1]; exact h
  have HL := Lib.hid h
  have HM := Lib.hid hm
  have HLN := Lib.hid hln
  clear h hm hln
  go_enter Try.func41, Try.ntmps41
  go_wp2_with fail
  go_loopw [1, 5] (fun kk i wr => ∃ j : Nat, j ≤ n ∧ i = .int .i64 j ∧ kk = .int .i64 ((k + szND (ln.take j) : Nat) : Int) ∧ Below w.heap.size w wr) (fun _ i _ => n - (intOf i).toNat)
  case atStart => exact ⟨0, by omega, rfl, by simp [szND], Below.refl _ _⟩
  case round =>
    obtain ⟨j, hj, rfl, rfl, hb⟩ := hrel
    have hz := hb.size
    have hle := szND_le ln j
    generalize hq : k + szND (ln.take j) = q
    have HQ := Lib.hid hq
    have hq1 : q ≤ 10000000 := by omega
    have hq0 : 0 < q := by omega
    clear hq hle
    by_cases hjn : j < n
    · obtain ⟨b, off, s, A1, n1, c1, l, rfl, hb1, hp, hr, c0, c1', c2, c3, c4, c5, c6, c7, c8, c9⟩ := (HL.out.below hb (Nat.le_refl _)).at_ hjn
      obtain ⟨x, hx⟩ : ∃ x, ln[j]? = some x := ⟨_, List.getElem?_eq_getElem (by rw [HLN.out]; exact hjn)⟩
      have hxm := HM.out.2 j x hx
      rw [if_pos hjn, hp, HQ.out] at hxm
      simp only [markND, Option.some.injEq, NodeD.mk.injEq] at hxm
      obtain ⟨rfl, rfl⟩ := hxm
      have hsn := szND_next hx
      have hle1 := szND_le ln (j + 1)
      have hnl : n1 = x.l.length := by rw [← hr.1, marksNMsg_len]
      subst hnl
      have HSN : Hid (k + szND (ln.take (j + 1)) = q + 9 + x.l.length * 5) := by show _ = _; have := HQ.out; omega
      have hvb : x.l.length ≤ 2097152 := by have := HSN.out; omega
      have HR := Lib.hid (hr.more hz)
      have hbl : b < wr.heap.size := by omega
      clear hp hr hx hsn hle1
      go_wp2_with fail
      refine (heldNMsgS_any A1 x.l.length c1 (q + 9) _ HR.out (by omega) hvb (by omega)).mono ?_
      rintro e w2 ⟨rfl, hb2⟩
      have HB2 := Lib.hid (hb.trans (hb2.mono hz))
      clear hb2
      have hnn : ¬ ((q + 9 + x.l.length * 5 : Nat) : Int) < 0 := by omega
      go_wp2_with fail
      go_roundw
      case rel => exact ⟨j + 1, by omega, by go_num, by rw [HSN.out]; go_num, HB2.out⟩
      case measure => simp [intOf]; omega
    · obtain rfl : j = n := by omega
      go_wp2
      go_ret
      exact ⟨by rw [← HQ.out, List.take_of_length_le (by rw [HLN.out]; exact Nat.le_refl _)]; rfl, hb⟩
end Go.Proofs.Ytjgaelnonacdkaa
