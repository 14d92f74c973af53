/- NetMem, NetCopy, RunRest: joined into one text. -/
import Derived.WalkKit
import Derived.WalkSpells
import Derived.WalkLawsBesides
import Derived.Lib.Hide
import Derived.RegionTactic
import Derived.Deep.RegionWith
import Derived.Deep.DeepCutAuto
import Derived.Deep.RegionLaw
import Derived.Test.YtjgaelnonacdkaaG16
import Derived.Test.YtjgaelnonacdkaaG26
import Derived.Test.YtjgaelnonacdkaaMNetFam
import Derived.Test.YtjgaelnonacdkaaG28
import Derived.Test.YtjgaelnonacdkaaMRunOne
namespace Go.Proofs.Ytjgaelnonacdkaa
open Go.RowKit

theorem OwnL.blk {α : Type} {f : α → List Value} {size : Nat} {t : TypeId} {w : World} {lo hi : Nat} {A : Option Addr} {n c : Nat} {l : List α} (h : OwnL f size t w lo hi A n c l) {g : Nat} (hg : Value.ownBlock (.slice A n c) = some g) : ∃ cur, Blk w g t cur ∧ lo ≤ g ∧ g < hi := by
  obtain ⟨_, ⟨_, rfl, _⟩ | ⟨g', cur, rfl, b, d, e, _⟩⟩ := h
  · simp [Value.ownBlock] at hg
  · simp only [Value.ownBlock, Option.some.injEq] at hg
    subst hg
    exact ⟨cur, e, b, d⟩
/-- a row of messages stays where a row of nodes grows -/
theorem OwnL.by_nodes {w w' : World} {lo lo' : Nat} {A C : Option Addr} {k c n e : Nat} {lv : List NodeV} {l : List NMsgD} (hr : OwnL nodeC 10 79 w lo' w.heap.size A k c lv) (hg : w.grownBy w' (Value.ownBlock (.slice A k c))) (h : OwnL msgC 5 49 w lo w.heap.size C n e l) :
    OwnL msgC 5 49 w' lo w'.heap.size C n e l := by
  refine OwnL.wide (h.keep fun g _ h2 eg => hg.block g h2 fun e2 => ?_) (Nat.le_refl _) hg.size
  obtain ⟨c1, b1, _⟩ := h.blk eg
  obtain ⟨c2, b2, _⟩ := hr.blk e2.symm
  have b1' : w.heap[g]? = some (.cells c1 49 (0, 0)) := b1
  have b2' : w.heap[g]? = some (.cells c2 79 (0, 0)) := b2
  rw [b1'] at b2'
  simp only [Option.some.injEq, Obj.cells.injEq] at b2'
  exact absurd b2'.2.1 (by decide)

/-- the first k nodes of ln, in a row of one's own -/
structure NodesG (w : World) (lo : Nat) (A : Option Addr) (c : Nat) (lv : List NodeV) (ln : List NodeD) (k : Nat) : Prop where
  row : OwnL nodeC 10 79 w lo w.heap.size A k c lv
  msg : ∀ (i : Nat) (v : NodeV), lv[i]? = some v → ∃ x : NodeD, ln[i]? = some x ∧ v.s = x.s ∧ OwnL msgC 5 49 w lo w.heap.size v.A v.n v.c x.l
  dist : ∀ (i j : Nat) (vi vj : NodeV) (g : Nat), lv[i]? = some vi → lv[j]? = some vj → vi.A = some ⟨g, 0, none⟩ → vj.A = some ⟨g, 0, none⟩ → i = j
section
variable {w w' : World} {lo k c a b : Nat} {A : Option Addr} {lv : List NodeV} {ln : List NodeD}
theorem NodesG.nil (w : World) (lo : Nat) (ln : List NodeD) : NodesG w lo none 0 [] ln 0 :=
  ⟨⟨rfl, .inl ⟨rfl, rfl, rfl⟩⟩, fun i v hv => by simp at hv, fun i j vi vj g hi => by simp at hi⟩
theorem NodesG.below (h : NodesG w lo A c lv ln k) (hb : Below w.heap.size w w') : NodesG w' lo A c lv ln k :=
  ⟨(h.row.below hb (Nat.le_refl _)).wide (Nat.le_refl _) hb.size, fun i v hv => by
    obtain ⟨x, p, q, r⟩ := h.msg i v hv
    exact ⟨x, p, q, (r.below hb (Nat.le_refl _)).wide (Nat.le_refl _) hb.size⟩, h.dist⟩
theorem NodesG.chg (h : NodesG w lo A c lv ln k) (hc : Chg a b w w') (hB : b ≤ lo) : NodesG w' lo A c lv ln k :=
  ⟨(h.row.chg hc (.inr hB)).wide (Nat.le_refl _) hc.size, fun i v hv => by
    obtain ⟨x, p, q, r⟩ := h.msg i v hv
    exact ⟨x, p, q, (r.chg hc (.inr hB)).wide (Nat.le_refl _) hc.size⟩, h.dist⟩
theorem NodesG.done (h : NodesG w lo A c lv ln ln.length) : NodesOwn w lo w.heap.size A ln.length c ln := ⟨lv, h.row, rfl, h.msg, h.dist⟩
theorem NodesG.of (h : NodesOwn w lo w.heap.size A k c ln) : ∃ lv, NodesG w lo A c lv ln k ∧ ln.length = k := by
  obtain ⟨lv, h1, h2, h3, h4⟩ := h
  exact ⟨lv, ⟨h1, h3, h4⟩, h2⟩
/-- a node more -/
theorem NodesG.next {w2 w3 w4 : World} {B : Option Addr} {d : Nat} {x : NodeD} {val : Value} (h : NodesG w lo A c lv ln k) (hlo : lo ≤ w.heap.size) (hb : Below w.heap.size w w2)
    (hm : OwnL msgC 5 49 w2 w.heap.size w2.heap.size B x.l.length d x.l) (hx : ln[k]? = some x) (hb2 : Below w2.heap.size w2 w3)
    (hown : w4.ownsRow lo 79 10 val (k + 1) (lv.flatMap nodeC ++ nodeC ⟨x.s, B, x.l.length, d⟩)) (hg : w3.grownBy w4 (Value.ownBlock (.slice A k c))) :
    ∃ A' c', val = .slice A' (k + 1) c' ∧ NodesG w4 lo A' c' (lv ++ [(⟨x.s, B, x.l.length, d⟩ : NodeV)]) ln (k + 1) ∧ Chg lo w3.heap.size w3 w4 := by
  have e : lv.flatMap nodeC ++ nodeC ⟨x.s, B, x.l.length, d⟩ = (lv ++ [(⟨x.s, B, x.l.length, d⟩ : NodeV)]).flatMap nodeC := by rw [List.flatMap_append]; simp
  rw [e] at hown
  have hlen : lv.length = k := h.row.1
  obtain ⟨A', c', rfl, ho⟩ := OwnL.of_own (f := nodeC) (n := k + 1) (l := lv ++ [(⟨x.s, B, x.l.length, d⟩ : NodeV)]) (by simp [hlen]) hown
  have hs1 := hb.size
  have hs2 := hb2.size
  have h3 := (h.below hb).below hb2
  have hm3 : OwnL msgC 5 49 w3 w.heap.size w3.heap.size B x.l.length d x.l := (hm.below hb2 (Nat.le_refl _)).wide (Nat.le_refl _) hs2
  have hch : Chg lo w3.heap.size w3 w4 := grown_chg hg fun g e => (h3.row.block g e)
  refine ⟨A', c', rfl, ⟨ho, fun i u hu => ?_, ?_⟩, hch⟩
  · rcases Nat.lt_or_ge i k with hlt | hge
    · rw [List.getElem?_append_left (by omega)] at hu
      obtain ⟨y, p, q, r⟩ := h3.msg i u hu
      exact ⟨y, p, q, OwnL.by_nodes h3.row hg r⟩
    · rw [List.getElem?_append_right (by omega), hlen] at hu
      have hi : i = k := by
        rcases Nat.eq_zero_or_pos (i - k) with h0 | h0
        · omega
        · rw [List.getElem?_eq_none (by simp; omega)] at hu; cases hu
      subst hi
      simp only [Nat.sub_self, List.getElem?_cons_zero, Option.some.injEq] at hu
      subst hu
      exact ⟨x, hx, rfl, OwnL.by_nodes h3.row hg (hm3.wide hlo (Nat.le_refl _))⟩
  · intro i j vi vj q hi hj ei ej
    have blk : ∀ (i : Nat) (u : NodeV), lv[i]? = some u → u.A = some ⟨q, 0, none⟩ → q < w.heap.size := by
      intro i u hu hA
      obtain ⟨y, _, _, d⟩ := h.msg i u hu
      exact (d.block q (by rw [hA]; rfl)).2
    have new : B = some ⟨q, 0, none⟩ → w.heap.size ≤ q := fun hA => (hm.block q (by rw [hA]; rfl)).1
    have side : ∀ (i : Nat) (u : NodeV), (lv ++ [(⟨x.s, B, x.l.length, d⟩ : NodeV)])[i]? = some u → (i < k ∧ lv[i]? = some u) ∨ (i = k ∧ u = ⟨x.s, B, x.l.length, d⟩) := by
      intro i u hu
      rcases Nat.lt_or_ge i k with hlt | hge
      · rw [List.getElem?_append_left (by omega)] at hu; exact .inl ⟨hlt, hu⟩
      · rw [List.getElem?_append_right (by omega), hlen] at hu
        have hi : i = k := by
          rcases Nat.eq_zero_or_pos (i - k) with h0 | h0
          · omega
          · rw [List.getElem?_eq_none (by simp; omega)] at hu; cases hu
        subst hi
        simp only [Nat.sub_self, List.getElem?_cons_zero, Option.some.injEq] at hu
        exact .inr ⟨rfl, hu.symm⟩
    rcases side i vi hi with ⟨_, a⟩ | ⟨rfl, rfl⟩ <;> rcases side j vj hj with ⟨_, b⟩ | ⟨rfl, rfl⟩
    · exact h.dist i j vi vj q a b ei ej
    · have := blk i vi a ei; have := new ej; omega
    · have := blk j vj b ej; have := new ei; omega
    · rfl
end
end Go.Proofs.Ytjgaelnonacdkaa
namespace Go.Proofs.Ytjgaelnonacdkaa
open Go.RowKit

/-- a net of one's own, its pool below or above its nodes -/
structure NetIn (w : World) (lo m1 m2 : Nat) (A : Option Addr) (c : Nat) (P : Option Addr) (d : Nat) (ln : List NodeD) (lp : List NMsgD) : Prop where
  h1 : lo ≤ m1
  h2 : m1 ≤ m2
  h3 : m2 ≤ w.heap.size
  nodes : NodesOwn w m1 m2 A ln.length c ln
  pool : OwnL msgC 5 49 w lo m1 P lp.length d lp ∨ OwnL msgC 5 49 w m2 w.heap.size P lp.length d lp
def NetOut3 (ln : List NodeD) (lp : List NMsgD) (w : World) (e : Ending) (w' : World) : Prop :=
  ∃ A c P d m1 m2, e = .returned (.agg #[.slice A ln.length c, .slice P lp.length d]) ∧ NetIn w' w.heap.size m1 m2 A c P d ln lp ∧ Below w.heap.size w w'
/-- the same, the pool below -/
def NetOutL (ln : List NodeD) (lp : List NMsgD) (w : World) (e : Ending) (w' : World) : Prop :=
  ∃ A c P d m1, e = .returned (.agg #[.slice A ln.length c, .slice P lp.length d]) ∧ w.heap.size ≤ m1 ∧ m1 ≤ w'.heap.size ∧ NodesOwn w' m1 w'.heap.size A ln.length c ln ∧ OwnL msgC 5 49 w' w.heap.size m1 P lp.length d lp ∧ Below w.heap.size w w'
theorem node_one (x : NodeV) : ∀ u ∈ nodeC x, u.oneCell' = true := by
  intro u hu
  simp only [nodeC, List.mem_cons, List.not_mem_nil, or_false] at hu
  rcases hu with rfl | rfl | rfl | rfl | rfl | rfl | rfl | rfl | rfl | rfl <;> rfl
theorem Rd.node (w : World) (x : NodeV) (g : Nat) (hg : g = w.heap.size) : Rd (w.alloc (.cells #[.int .i64 x.s.me, .int .i64 x.s.round, .int .i64 x.s.step, .int .i64 x.s.lv, .int .i64 x.s.lr, .int .i64 x.s.vv, .int .i64 x.s.vr, .int .i64 x.s.polka, .int .i64 x.s.dec, .slice x.A x.n x.c] 79)) (w.heap.size + 1) (some ⟨g, 0, none⟩) 1 1 10 (nodeC x) :=
  Rd_one w _ 79 10 rfl g hg

set_option maxRecDepth 100000 in
set_option maxHeartbeats 4000000 in
theorem copyNet_any (A : Option Addr) (c : Nat) (P : Option Addr) (d : Nat) (ln : List NodeD) (lp : List NMsgD) (w : World) (hl : NodesRd w w.heap.size A ln.length c ln) (hp : RdL msgC 5 w w.heap.size P lp.length d lp)
    (hn : ln.length ≤ 1000) (hm : ∀ x ∈ ln, x.l.length ≤ 1048576) (hpn : lp.length ≤ 1048576) :
    Calls Try.prog 72 #[.agg #[.slice A ln.length c, .slice P lp.length d]] w (NetOutL ln lp w) := by
  obtain ⟨i0, hi, hz0, hz1, hz2⟩ := info_parts infoMsgC
  obtain ⟨i1, hj, hy0, hy1, hy2⟩ := info_parts infoNode'
  have HL := Lib.hid hl
  have HP := Lib.hid hp
  have HM := Lib.hid hm
  clear hl hp hm
  go_enter Try.func72, Try.ntmps72
  go_wp2_with (at_builtin; refine wpList_app_rd _ rfl _ _ _ rfl (w.heap.size + 2) 49 i0 _ 5 40 Try.underlying25 hi hz0 hz1 hz2 rfl (by decide) (.slice none 0 0) 0 [] rfl ⟨by simp, .inl ⟨rfl, rfl⟩⟩ w.heap.size P lp.length d (lp.flatMap msgC) rfl (by exact ((HP.out.alloc (Nat.le_refl _) _).alloc (by simp) _).2) (msgs_one lp) (by unfold maxLen; omega) (by omega) (by simp) ?_)
  intro v1 w1 hown hg hat
  clear hat
  (try simp only [Nat.zero_add, List.nil_append] at hown)
  obtain ⟨P1, d1, rfl, ho⟩ := OwnL.of_own (l := lp) rfl hown
  have HO := Lib.hid ho
  have HG := Lib.hid ((Below.refl _ _).grown hg (Nat.le_refl _) (fun k hk => by cases hk))
  clear hown hg ho
  have hz' : w.heap.size + 2 ≤ w1.heap.size := by have := HG.out.size; simpa using this
  have HB1 : Hid (Below w.heap.size w w1) := (((Below.refl _ _).alloc (Nat.le_refl _) _).alloc (by simp) _).trans (HG.out.mono (by simp; omega))
  have HA1 : Hid (Blk w1 w.heap.size 27 #[.slice A ln.length c, .slice P lp.length d]) := ((show Blk (w.alloc _) w.heap.size _ _ from heap_alloc_new w _).alloc _).below HG.out (by simp; omega)
  have HR1 : Hid (Blk w1 (w.heap.size + 1) 27 #[.slice none 0 0, .slice none 0 0]) := by
    have h := heap_alloc_new (w.alloc (.cells #[.slice A ln.length c, .slice P lp.length d] 27)) (.cells #[.slice none 0 0, .slice none 0 0] 27)
    rw [World.size_alloc] at h
    exact (show Blk _ _ _ _ from h).below HG.out (by simp)
  have ta : ∀ o, w1.cell? ⟨w.heap.size, o, none⟩ = _ := HA1.out.cell
  have tl : w.heap.size < w1.heap.size := by omega
  clear HG
  go_upto_region 2 with fail
  obtain ⟨w2, hw2⟩ : ∃ q, q = w1.alloc (.cells #[.slice none 0 0, .slice P1 lp.length d1] 27) := ⟨_, rfl⟩
  rw [← hw2]
  have hb2 : Below w1.heap.size w1 w2 := by rw [hw2]; exact (Below.refl _ _).alloc (Nat.le_refl _) _
  have HX2 : Hid (Blk w2 w1.heap.size 27 #[.slice none 0 0, .slice P1 lp.length d1]) := by show Blk _ _ _ _; rw [hw2]; exact heap_alloc_new w1 _
  have HBB2 := Lib.hid hb2
  have hs2 := HX2.out.lt
  have tb : ∀ o, w2.cell? ⟨w.heap.size, o, none⟩ = _ := fun o => (hb2.cell (p := ⟨w.heap.size, o, none⟩) tl).trans (ta o)
  clear hw2 hb2 ta
  go_wp2_with fail
  clear tb
  go_loopw [13] (fun i wr => ∃ (k : Nat) (lv : List NodeV) (A' : Option Addr) (c' : Nat), k ≤ ln.length ∧ i = .int .i64 k ∧ NodesG wr (w1.heap.size + 1) A' c' lv ln k ∧ Blk wr w1.heap.size 27 #[.slice A' k c', .slice P1 lp.length d1] ∧ Below w1.heap.size w2 wr) (fun i _ => ln.length - (intOf i).toNat)
  case atStart => exact ⟨0, [], none, 0, by omega, rfl, NodesG.nil _ _ _, HX2.out, Below.refl _ _⟩
  case round =>
    obtain ⟨k, lv, A', c', hk, rfl, hG, hX, hb⟩ := hrel
    have hsr := hX.lt
    have HBR : Hid (Below w1.heap.size w1 wr) := Lib.hid (HBB2.out.trans hb)
    have HBW : Hid (Below w.heap.size w wr) := Lib.hid (HB1.out.trans (HBR.out.mono (by omega)))
    have HX := Lib.hid hX
    have HGR := Lib.hid hG
    have HB2R := Lib.hid hb
    clear hG hX hb
    by_cases hkn : k < ln.length
    · obtain ⟨b, off, s, A1, n1, c1, l, rfl, hb1, hpk, hr, q0, q1, q2, q3, q4, q5, q6, q7, q8, q9⟩ := (HL.out.below HBW.out (Nat.le_refl _)).at_ hkn
      obtain rfl : l.length = n1 := hr.1
      have hlm := HM.out _ (List.mem_of_getElem? hpk)
      have HPK := Lib.hid hpk
      have hlm : l.length ≤ 1048576 := hlm
      have hsw := HBW.out.size
      have HRK := Lib.hid (hr.more hsw)
      have hbw : b < wr.heap.size := by omega
      clear hpk hr
      go_upto_region 5 with fail
      obtain ⟨w3, hw3⟩ : ∃ q, q = wr.alloc (.cells #[.int .i64 s.me, .int .i64 s.round, .int .i64 s.step, .int .i64 s.lv, .int .i64 s.lr, .int .i64 s.vv, .int .i64 s.vr, .int .i64 s.polka, .int .i64 s.dec, .slice A1 l.length c1] 79) := ⟨_, rfl⟩
      rw [← hw3]
      have hb3 : Below wr.heap.size wr w3 := by rw [hw3]; exact (Below.refl _ _).alloc (Nat.le_refl _) _
      have hn3 : Blk w3 wr.heap.size 79 #[.int .i64 s.me, .int .i64 s.round, .int .i64 s.step, .int .i64 s.lv, .int .i64 s.lr, .int .i64 s.vv, .int .i64 s.vr, .int .i64 s.polka, .int .i64 s.dec, .slice A1 l.length c1] := by rw [hw3]; exact heap_alloc_new wr _
      have yb := hn3.cell
      have hs3 := hn3.lt
      have HX3 := Lib.hid (HX.out.below hb3 hsr)
      have tg := HX3.out.cell
      have HG3 := Lib.hid (HGR.out.below hb3)
      have HRK3 := Lib.hid ((HRK.out.below hb3 (Nat.le_refl _)).more hb3.size)
      have HB3 := Lib.hid hb3
      clear hw3 hb3 hn3 q0 q1 q2 q3 q4 q5 q6 q7 q8 q9
      have hx3 : w1.heap.size < w3.heap.size := by omega
      go_region_law (first
        | ((refine step_app_rd _ rfl _ _ _ rfl (w1.heap.size + 1) 79 i1 _ 10 96 Try.underlying24 hj hy0 hy1 hy2 rfl (by decide) (.slice A' k c') k (lv.flatMap nodeC) rfl (by exact ((HG4.out.row.owns nodeC_len).alloc _)) _ _ 1 1 _ rfl (by exact Rd.node w4 ⟨s, A3, l.length, c3⟩ _ (by first | rfl | simp)) (node_one _) (by unfold maxLen; omega) (by omega) (by first | (simp; done) | (simp; omega)) ?_)
           intro v5 w5 hown hg hat
           obtain ⟨A5, c5, rfl, hG5, hC5⟩ := HG3.out.next (x := ⟨s, l⟩) (by omega) HB4.out HO4.out HPK.out ((Below.refl _ _).alloc (Nat.le_refl _) _) hown hg
           have HX5 := Lib.hid (show Blk w5 w1.heap.size _ _ from (hC5.block _ (by simp; omega) (.inl (by omega))).trans (HX4.out.alloc _))
           have HG5 := Lib.hid hG5
           have HC5 := Lib.hid hC5
           clear hown hg hat hG5 hC5
           have tg5 := HX5.out.cell
           have tf5 := HX5.out.frozen
           have hx5 := HX5.out.lt)
        | (go_simp; refine (copyNode_any s A1 c1 l _ (by exact HRK3.out) hlm).mono ?_; rintro e w4 ⟨A3, c3, rfl, ho, hb⟩; have hb4 : Below w3.heap.size w3 w4 := ⟨hb.os, hb.tape, hb.output, hb.size, hb.block⟩; have HO4 : Hid (OwnL msgC 5 49 w4 w3.heap.size w4.heap.size A3 l.length c3 l) := Lib.hid ho; have HB4 := Lib.hid hb4; have HG4 := Lib.hid (HG3.out.below hb4); have HX4 := Lib.hid (HX3.out.below hb4 hx3); have tg4 := HX4.out.cell; have hx4 := HX4.out.lt; have hs4 := hb4.size; clear ho hb hb4))
      all_goals
        go_wp2_with fail
        go_roundw
        case rel =>
          have D : Chg w1.heap.size (w1.heap.size + 1) w5 (w5.setCell ⟨w1.heap.size, 0, none⟩ (.slice A5 (k + 1) c5)) := Chg.setCell (p := ⟨w1.heap.size, 0, none⟩) (Chg.refl _ _ w5) (Nat.le_refl _) (Nat.lt_succ_self _) _
          refine ⟨k + 1, _, A5, c5, by omega, by go_num, HG5.out.chg D (Nat.le_refl _), ?_, ?_⟩
          · have h := HX5.out.set_ 0 (.slice A5 (k + 1) c5)
            simpa using h
          · exact ((HB2R.out.trans (HB3.out.mono (by omega))).trans (((HB4.out.alloc hs4 _).mono (by omega)))).trans ((HC5.out.below (B := w1.heap.size) (by omega) (by simp; omega)).trans (D.below (Nat.le_refl _) (by omega)))
        case measure => simp [intOf]; omega
    · obtain rfl : k = ln.length := by omega
      have HR := Lib.hid (HR1.out.below HBR.out (by omega))
      have tg := HX.out.cell
      have rg := HR.out.cell
      have rf := HR.out.frozen
      have hlr := HR.out.lt
      go_wp2_with fail
      have D : ∀ x y, Chg (w.heap.size + 1) (w.heap.size + 1 + 1) wr ((wr.setCell ⟨w.heap.size + 1, 0, none⟩ x).setCell ⟨w.heap.size + 1, 1, none⟩ y) := fun x y => by (repeat (first | with_reducible refine Chg.setCell ?_ (by first | exact Nat.le_refl _ | (simp; done) | (simp; omega)) (by first | (simp; done) | (simp; omega)) _ | with_reducible refine Chg.alloc ?_ _ | with_reducible refine Chg.drew ?_)); (with_reducible exact Chg.refl _ _ _)
      refine bodyPost_ret (v := .agg #[.slice A' ln.length c', .slice P1 lp.length d1]) (by simp [results, Try.results72, go_sem, rg]) rfl ⟨A', c', P1, d1, w1.heap.size + 1, rfl, by omega, ?_, ?_, ?_, ?_⟩
      · simp only [World.size_setCell]; omega
      · have h := (HGR.out.done.chg (D (.slice A' ln.length c') (.slice P1 lp.length d1)) (.inr (by omega))).wide (Nat.le_refl _) (D (.slice A' ln.length c') (.slice P1 lp.length d1)).size
        exact h
      · exact (((HO.out.below HBR.out (Nat.le_refl _)).wide (lo' := w.heap.size + 2) (hi' := w1.heap.size + 1) (by simp) (by omega)).chg (D _ _) (.inr (by omega))).wide (by omega) (Nat.le_refl _)
      · exact HBW.out.trans ((D _ _).below (by omega) (by omega))
end Go.Proofs.Ytjgaelnonacdkaa
namespace Go.Proofs.Ytjgaelnonacdkaa
open Go.RowKit

set_option maxRecDepth 100000 in
set_option maxHeartbeats 4000000 in
theorem l16Rules_any (P : Nat → Prop) (A : Option Addr) (c : Nat) (B : Option Addr) (d : Nat) (x : RunS) (w : World) (hx : Rows w P A c B d x) (hP : NodeP x.s x.l) (ho : x.o.length ≤ 700) :
    Calls Try.prog 108 #[runV x A c B d] w (RunOut P (restR x) w) := by
  have HR := Lib.hid hx
  have HP0 := Lib.hid hP
  clear hx hP
  unfold runV
  go_enter Try.func108, Try.ntmps108
  go_upto_region 1 with fail
  obtain ⟨w2, hw2⟩ : ∃ q, q = (w.alloc (.cells #[.int .i64 x.s.me, .int .i64 x.s.round, .int .i64 x.s.step, .int .i64 x.s.lv, .int .i64 x.s.lr, .int .i64 x.s.vv, .int .i64 x.s.vr, .int .i64 x.s.polka, .int .i64 x.s.dec, .slice A x.l.length c, .slice B x.o.length d] 120)).alloc (.cells #[.int .i64 0, .int .i64 0, .int .i64 0, .int .i64 0, .int .i64 0, .int .i64 0, .int .i64 0, .int .i64 0, .int .i64 0, .slice none 0 0, .slice none 0 0] 120) := ⟨_, rfl⟩
  rw [← hw2]
  have HX2 : Hid (RunAt w2 (fun q => P q ∨ q = w.heap.size + 1) w.heap.size A c B d x) := by show RunAt _ _ _ _ _ _ _ _; rw [hw2]; exact (run_open HR.out).1
  have HZ2 : Hid (Blk w2 (w.heap.size + 1) 120 #[.int .i64 0, .int .i64 0, .int .i64 0, .int .i64 0, .int .i64 0, .int .i64 0, .int .i64 0, .int .i64 0, .int .i64 0, .slice none 0 0, .slice none 0 0]) := by show Blk _ _ _ _; rw [hw2]; exact (run_open HR.out).2.1
  have HK2 : Hid (Keep P w w2) := by show Keep _ _ _; rw [hw2]; exact (run_open HR.out).2.2
  have hnb : ¬ P w.heap.size := fun h => by have := HR.out.lt _ h; omega
  have hnz : ¬ P (w.heap.size + 1) := fun h => by have := HR.out.lt _ h; omega
  have hne : w.heap.size + 1 ≠ w.heap.size := by omega
  clear hw2
  have tb := HX2.out.cells
  have tbf := HX2.out.free
  have tz := HZ2.out.cell
  have tzf := HZ2.out.frozen
  have hltb := HX2.out.lt
  have hltz := HZ2.out.lt
  clear tb tbf tz tzf hltb hltz
  go_loopw [4] (fun _ wr => ∃ (y : RunS) (A : Option Addr) (c : Nat) (B : Option Addr) (d : Nat), RunAt wr (fun q => P q ∨ q = w.heap.size + 1) w.heap.size A c B d y ∧
    Blk wr (w.heap.size + 1) 120 #[.int .i64 0, .int .i64 0, .int .i64 0, .int .i64 0, .int .i64 0, .int .i64 0, .int .i64 0, .int .i64 0, .int .i64 0, .slice none 0 0, .slice none 0 0] ∧ NodeP y.s y.l ∧ restR y = restR x ∧ y.o.length + muR y ≤ x.o.length + muR x ∧ Keep P w wr) (fun _ wr => muOf wr w.heap.size)
  case atStart => exact ⟨x, A, c, B, d, HX2.out, HZ2.out, HP0.out, rfl, Nat.le_refl _, HK2.out⟩
  case round =>
    obtain ⟨y, A1, c1, B1, d1, ha, hz, hp, hre, hlen, hk⟩ := hrel
    have HA := Lib.hid ha
    have HZ := Lib.hid hz
    have HY := Lib.hid hp
    have HE := Lib.hid hre
    have HK := Lib.hid hk
    have HLen := Lib.hid hlen
    have hmu := mu_le HP0.out
    have hyo : y.o.length ≤ 900 := by omega
    have hmuE := Lib.hid (muOf_eq ha.blk)
    clear ha hz hp hre hlen hk hmu
    have tb := HA.out.cells
    have hltb := HA.out.lt
    go_wp2_with fail
    refine (l16One_any (fun q => (P q ∨ q = w.heap.size + 1) ∨ q = w.heap.size) A1 c1 B1 d1 y _ HA.out.rows HY.out hyo).mono ?_
    clear tb
    cases hr : ruleR y with
    | none =>
      have HR1 := Lib.hid hr
      rw [show (none : Option RunS).getD y = y from rfl, show (none : Option RunS).isSome = false from rfl]
      rintro e w3 ⟨A3, c3, B3, d3, rfl, hr3, hk3, hs3⟩
      obtain ⟨rfl, rfl, rfl, rfl⟩ := hs3 rfl
      have HA3 : Hid (RunAt w3 (fun q => P q ∨ q = w.heap.size + 1) w.heap.size A3 c3 B3 d3 y) := ⟨hk3.blk (.inr rfl) HA.out.blk, HA.out.np, hr3⟩
      have HZ3 := Lib.hid (hk3.blk (.inl (.inr rfl)) HZ.out)
      have HK3 := Lib.hid (HK.out.trans (hk3.mono fun q hq => .inl (.inl hq)))
      have HRY : Hid (restR x = y) := by show _ = _; rw [← HE.out, restR_none HR1.out]
      clear hr3 hk3 hs3 hr
      unfold runV
      have tb := HA3.out.cells
      have hltb3 := HA3.out.lt
      have tz := HZ3.out.cell
      have tzf := HZ3.out.frozen
      have hltz3 := HZ3.out.lt
      go_upto_region 3 with fail
      obtain ⟨w4, hw4⟩ : ∃ q, q = w3.alloc (.cells #[.int .i64 y.s.me, .int .i64 y.s.round, .int .i64 y.s.step, .int .i64 y.s.lv, .int .i64 y.s.lr, .int .i64 y.s.vv, .int .i64 y.s.vr, .int .i64 y.s.polka, .int .i64 y.s.dec, .slice A3 y.l.length c3, .slice B3 y.o.length d3] 120) := ⟨_, rfl⟩
      rw [← hw4]
      have HA4 : Hid (RunAt w4 (fun q => P q ∨ q = w.heap.size + 1) w.heap.size A3 c3 B3 d3 y) := by show RunAt _ _ _ _ _ _ _ _; rw [hw4]; exact HA3.out.alloc _
      have HZ4 : Hid (Blk w4 (w.heap.size + 1) 120 #[.int .i64 0, .int .i64 0, .int .i64 0, .int .i64 0, .int .i64 0, .int .i64 0, .int .i64 0, .int .i64 0, .int .i64 0, .slice none 0 0, .slice none 0 0]) := by show Blk _ _ _ _; rw [hw4]; exact HZ3.out.alloc _
      have HK4 : Hid (Keep P w w4) := by show Keep _ _ _; rw [hw4]; exact HK3.out.alloc (fun q hq => HA3.out.ltP q (.inl hq)) _
      clear hw4 tb tz tzf
      have tb := HA4.out.cells
      have tz := HZ4.out.cell
      have tzf := HZ4.out.frozen
      go_wp2_with fail
      refine bodyPost_ret (v := runV y A3 c3 B3 d3) (by unfold runV; first | (simp [results, Try.results108, go_sem, tz]; done) | (simp [results, Try.results108, go_sem, tz]; repeat' (first | rfl | constructor))) rfl ?_
      refine ⟨A3, c3, B3, d3, by rw [HRY.out], ?_, ?_⟩
      · rw [HRY.out]
        show Rows (fillR w4 (w.heap.size + 1) A3 c3 B3 d3 y) P A3 c3 B3 d3 y
        exact (fillR_rows HA4.out.rows (.inl (.inr rfl))).mono fun q hq => .inl (.inl hq)
      · show Keep P w (fillR w4 (w.heap.size + 1) A3 c3 B3 d3 y)
        exact fillR_keep HK4.out hnz
    | some z =>
      have HRO := Lib.hid (rule_ok HY.out hr)
      have HRS := Lib.hid (restR_some HY.out hr)
      rw [show (some z).getD y = z from rfl, show (some z).isSome = true from rfl]
      clear hr
      rintro e w3 ⟨A3, c3, B3, d3, rfl, hr3, hk3, _⟩
      have HB3 := Lib.hid (hk3.blk (.inr rfl) HA.out.blk)
      have HR3 := Lib.hid hr3
      have HZ3 := Lib.hid (hk3.blk (.inl (.inr rfl)) HZ.out)
      have HK3 := Lib.hid (HK.out.trans (hk3.mono fun q hq => .inl (.inl hq)))
      clear hr3 hk3
      unfold runV
      have tb := HB3.out.cell
      unfold actC at tb
      have tbf := HB3.out.frozen
      have hltb3 := HB3.out.lt
      go_upto_region 4 with fail
      obtain ⟨w4, hw4⟩ : ∃ q, q = w3.alloc (.cells #[.int .i64 z.s.me, .int .i64 z.s.round, .int .i64 z.s.step, .int .i64 z.s.lv, .int .i64 z.s.lr, .int .i64 z.s.vv, .int .i64 z.s.vr, .int .i64 z.s.polka, .int .i64 z.s.dec, .slice A3 z.l.length c3, .slice B3 z.o.length d3] 120) := ⟨_, rfl⟩
      rw [← hw4]
      have HR4 : Hid (Rows w4 (fun q => (P q ∨ q = w.heap.size + 1) ∨ q = w.heap.size) A3 c3 B3 d3 z) := by show Rows _ _ _ _ _ _ _; rw [hw4]; exact HR3.out.alloc _
      have HB4 : Hid (Blk w4 w.heap.size 120 (actC y A1 c1 B1 d1)) := by show Blk _ _ _ _; rw [hw4]; exact HB3.out.alloc _
      have HE4 : Hid (Blk w4 w3.heap.size 120 #[.int .i64 z.s.me, .int .i64 z.s.round, .int .i64 z.s.step, .int .i64 z.s.lv, .int .i64 z.s.lr, .int .i64 z.s.vv, .int .i64 z.s.vr, .int .i64 z.s.polka, .int .i64 z.s.dec, .slice A3 z.l.length c3, .slice B3 z.o.length d3]) := by show Blk _ _ _ _; rw [hw4]; exact heap_alloc_new w3 _
      have HZ4 : Hid (Blk w4 (w.heap.size + 1) 120 #[.int .i64 0, .int .i64 0, .int .i64 0, .int .i64 0, .int .i64 0, .int .i64 0, .int .i64 0, .int .i64 0, .int .i64 0, .slice none 0 0, .slice none 0 0]) := by show Blk _ _ _ _; rw [hw4]; exact HZ3.out.alloc _
      have HK4 : Hid (Keep P w w4) := by show Keep _ _ _; rw [hw4]; exact HK3.out.alloc (fun q hq => HR3.out.lt q (.inl (.inl hq))) _
      clear hw4 tb tbf
      have tb := HB4.out.cell
      unfold actC at tb
      have tbf := HB4.out.frozen
      have te := HE4.out.cell
      have HA5 : Hid (RunAt (fillR w4 w.heap.size A3 c3 B3 d3 z) (fun q => P q ∨ q = w.heap.size + 1) w.heap.size A3 c3 B3 d3 z) := fillR_at HR4.out HB4.out rfl (fun k hk => hk) HA.out.np
      have HZ5 : Hid (Blk (fillR w4 w.heap.size A3 c3 B3 d3 z) (w.heap.size + 1) 120 #[.int .i64 0, .int .i64 0, .int .i64 0, .int .i64 0, .int .i64 0, .int .i64 0, .int .i64 0, .int .i64 0, .int .i64 0, .slice none 0 0, .slice none 0 0]) := fillR_far HZ4.out hne
      have HK5 : Hid (Keep P w (fillR w4 w.heap.size A3 c3 B3 d3 z)) := fillR_keep HK4.out hnb
      go_wp2_with fail
      go_roundw
      case rel => exact ⟨z, A3, c3, B3, d3, HA5.out, HZ5.out, HRO.out.ok, by rw [← HE.out, HRS.out], by have h1 := HRO.out.mu; have h2 := HRO.out.out; have h3 := HLen.out; omega, HK5.out⟩
      case measure =>
        show muOf (fillR w4 w.heap.size A3 c3 B3 d3 z) w.heap.size < muOf wr w.heap.size
        rw [muOf_eq HA5.out.blk, hmuE.out]
        exact HRO.out.mu
end Go.Proofs.Ytjgaelnonacdkaa
