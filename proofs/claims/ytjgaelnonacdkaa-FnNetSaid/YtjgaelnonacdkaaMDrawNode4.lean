/- l16Some: a drawn node (under way). -/
import Derived.WalkKit
import Derived.WalkSpells
import Derived.WalkLawsBesides
import Derived.Lib.Hide
import Derived.Test.YtjgaelnonacdkaaMDrawNode3
import Derived.Test.YtjgaelnonacdkaaG08
import Derived.Test.YtjgaelnonacdkaaG26
import Derived.Test.YtjgaelnonacdkaaMRunCalls
import Derived.Test.YtjgaelnonacdkaaL
namespace Go.Proofs.Ytjgaelnonacdkaa
open Go.RowKit

def NodeDrew (cb : Nat) (A : Option Addr) (n c : Nat) (w : World) (e : Ending) (w' : World) : Prop :=
  ∃ (s : NodeS) (l : List NMsgD) (B : Option Addr) (d : Nat), e = .returned (.agg #[.int .i64 s.me, .int .i64 s.round, .int .i64 s.step, .int .i64 s.lv, .int .i64 s.lr, .int .i64 s.vv, .int .i64 s.vr, .int .i64 s.polka, .int .i64 s.dec, .slice B l.length d]) ∧ OwnL msgC 5 49 w' w.heap.size w'.heap.size B l.length d l ∧ l.length ≤ 3000 ∧ Chg cb (cb + 1) w w' ∧ Cur w' cb A n c

theorem NodeIn.drew {w0 wx : World} {cb n c R T d : Nat} {A B : Option Addr} {s : NodeS} {l : List NMsgD} (h : NodeIn w0 cb A n c R T wx s l B d) : NodeIn w0 cb A n c R T wx.drew s l B d :=
  h.below ⟨rfl, rfl, rfl, Nat.le_refl _, fun _ _ => rfl⟩
theorem Chg.trans_top2 {cb D hi : Nat} {w w1 w2 : World} (h : Chg cb (cb + 1) w w1) (hD : w.heap.size ≤ D) (k : Chg D hi w1 w2) : Chg cb (cb + 1) w w2 :=
  ⟨k.os.trans h.os, k.tape.trans h.tape, k.output.trans h.output, Nat.le_trans h.size k.size, fun q h1 h2 => (k.block q (by have := h.size; omega) (.inl (by omega))).trans (h.block q h1 h2)⟩
/-- a message more -/
theorem NodeIn.app {w0 wx w' : World} {cb n c R T d : Nat} {A B : Option Addr} {s : NodeS} {l : List NMsgD} {m : NMsgD} {v : Value} (h : NodeIn w0 cb A n c R T wx s l B d) (hl : l.length + 1 ≤ 3000) (hcT : cb < T) (hRT : R < T) (h0 : w0.heap.size ≤ T)
    (hown : w'.ownsRow (T + 1) 49 5 v (l.length + 1) (l.flatMap msgC ++ msgC m)) (hg : wx.grownBy w' (Value.ownBlock (.slice B l.length d))) :
    ∃ B' d', v = .slice B' (l.length + 1) d' ∧ (∀ i, w'.cell? ⟨T, i, none⟩ = (nodeA s B l.length d)[i]?) ∧ (∀ i, w'.frozen? ⟨T, i, none⟩ = false) ∧ T < w'.heap.size ∧ NodeIn w0 cb A n c R T (w'.setCell ⟨T, 9, none⟩ v) s (l ++ [m]) B' d' := by
  have e : l.flatMap msgC ++ msgC m = (l ++ [m]).flatMap msgC := by rw [List.flatMap_append]; simp
  rw [e] at hown
  obtain ⟨B', d', rfl, ho⟩ := OwnL.of_own (f := msgC) (l := l ++ [m]) (by simp) hown
  have hch : Chg (T + 1) wx.heap.size wx w' := grown_chg hg fun g e => by have := h.own.block g e; omega
  have hb : Blk w' T 79 (nodeA s B l.length d) := (hch.block T h.box.lt (.inl (by omega))).trans h.box
  have hc2 : Chg T (T + 1) w' (w'.setCell ⟨T, 9, none⟩ (.slice B' (l.length + 1) d')) := (Chg.refl _ _ _).setCell (p := ⟨T, 9, none⟩) (Nat.le_refl _) (Nat.lt_succ_self _) _
  refine ⟨B', d', rfl, hb.cell, hb.frozen, hb.lt, ?_, ?_, (h.cur.chg hch (by omega)).chg hc2 hcT, (h.chg.trans_top2 (by omega) hch).trans_top2 h0 hc2, ?_, by simpa using hl⟩
  · have := hb.set_ 9 (.slice B' (l.length + 1) d')
    simpa [nodeA] using this
  · exact (hc2.block R (by have := hb.lt; omega) (.inl (by omega))).trans ((hch.block R h.res.lt (.inl (by omega))).trans h.res)
  · have := (ho.chg hc2 (.inr (Nat.le_refl _))).wide (Nat.le_refl _) hc2.size
    simpa using this

set_option maxRecDepth 100000 in
set_option maxHeartbeats 2000000 in
theorem l16Some_any (cb : Nat) (A : Option Addr) (n c : Nat) (m : Int) (w : World) (hc : Cur w cb A n c) (hm : m ≤ 1048576) :
    Calls Try.prog 86 #[.pointer (some ⟨cb, 0, none⟩), .int .i64 m] w (NodeDrew cb A n c w) := by
  have HC := Lib.hid hc
  have hlt := hc.lt
  clear hc
  go_enter Try.func86, Try.ntmps86
  go_wp2_with fail
  refine (l1Below_any cb A n c 4 _ (HC.out.alloc _) (by omega)).mono ?_
  rintro e w1 ⟨v, rfl, ⟨x1, rfl, hx0, hxx⟩, hg, hu⟩
  simp at hxx
  have HU1 := Lib.hid hu
  have HR1 : Hid (Blk w1 w.heap.size 79 zeroA) := (hg.block _ (by simp) (.inr (by omega))).trans (heap_alloc_new w _)
  have hs1 : w.heap.size < w1.heap.size := HR1.out.lt
  have C1 := Lib.hid (((Chg.refl cb (cb + 1) w).alloc _).trans hg)
  clear hg hu
  have hin : inB (1 + x1) 1 4 = true := by rw [inB_iff]; omega
  go_wp2_with fail
  refine (sNodeNew_yes (1 + x1) _ hin).mono ?_
  rintro e w2 ⟨rfl, hb⟩
  have HB2 := Lib.hid hb
  have hs2 := hb.size
  clear hb hin
  go_upto_region 2 with fail
  obtain ⟨w3, hw3⟩ : ∃ q, q = w2.alloc (.cells (nodeA ⟨1 + x1, -1, 1, 0, -1, 0, -1, -1, 0⟩ none 0 0) 79) := ⟨_, rfl⟩
  unfold nodeA at hw3
  rw [← hw3]
  have N3 : Hid (NodeIn w cb A n c w.heap.size w2.heap.size w3 ⟨1 + x1, -1, 1, 0, -1, 0, -1, -1, 0⟩ [] none 0) := by
    rw [hw3]
    exact ⟨heap_alloc_new w2 _, (HR1.out.below HB2.out hs1).below ((Below.refl _ _).alloc (Nat.le_refl _) _) (by omega), (HU1.out.below HB2.out HU1.out.lt (Nat.le_refl _)).alloc _, (C1.out.below_trans HB2.out).alloc _, ⟨rfl, .inl ⟨rfl, rfl, rfl⟩⟩, by simp⟩
  clear hw3 HR1 HU1 C1 HB2 HC
  have hcT : cb < w2.heap.size := by omega
  have hRT : w2.heap.size ≠ w.heap.size := by omega
  have h0T : w.heap.size ≤ w2.heap.size := by omega
  go_wp2_with fail
  refine (l1Below_any cb A n c m _ N3.out.cur (by omega)).mono ?_
  rintro e w4 ⟨v, rfl, ⟨j, rfl, hj0, hj1⟩, hg, hu⟩
  have N4 := Lib.hid (N3.out.call hg hu hlt hcT)
  clear hg hu N3
  obtain ⟨k0, rfl⟩ := Int.eq_ofNat_of_zero_le hj0
  have hk0 : k0 ≤ 1048576 := by split at hj1 <;> omega
  clear hj1 hj0
  go_wp2_with fail
  go_loopw [7] (fun i wr => ∃ (k : Nat) (s : NodeS) (l : List NMsgD) (B : Option Addr) (d : Nat), k ≤ 1048576 ∧ i = .int .i64 k ∧ NodeIn w cb A n c w.heap.size w2.heap.size wr s l B d ∧ l.length ≤ 2000) (fun i _ => (intOf i).toNat)
  case atStart => exact ⟨k0, _, [], none, 0, hk0, rfl, N4.out, by simp⟩
  case round =>
    obtain ⟨k, s, l, B, d, hkb, rfl, hN, hl⟩ := hrel
    have NK := Lib.hid hN
    clear hN N4
    by_cases hk : (0 : Int) < k
    · go_wp2_with fail
      refine (l1Below_any cb A n c 8 _ NK.out.cur (by omega)).mono ?_
      rintro e w5 ⟨v, rfl, ⟨x, rfl, hx2, hx3⟩, hg, hu⟩
      have N5 := Lib.hid (NK.out.call hg hu hlt hcT)
      clear hg hu NK hx3
      have h5 := N5.out.box.lt
      have tg := N5.out.box.cell
      have tf := N5.out.box.frozen
      unfold nodeA at tg
      by_cases hx : x = 0
      · subst hx
        go_wp2_with fail
        refine (sNodeStart_any s B d l _ (N5.out.own.rd msgC_len)).mono ?_
        rintro e w6 ⟨A7, c7, B7, d7, rfl, hr, hkk⟩
        have N6 := Lib.hid (N5.out.below (hkk.below fun q h => h))
        obtain ⟨a1, b1, a2, b2, o1, o2, p1, p2, p3, p4, p5, p6, p7⟩ := hr.split hkk.size
        obtain ⟨ln1, ln2⟩ := startN_len s l
        have ho := Lib.hid (o1.wide (lo' := w2.heap.size + 1) (hi' := w6.heap.size) (by omega) (by omega))
        obtain ⟨y, hy⟩ : ∃ y, y = (startN s l).1 := ⟨_, rfl⟩
        have h6 := N6.out.box.lt
        clear tg tf hr hkk o1 o2 N5
        have tg := N6.out.box.cell
        have tf := N6.out.box.frozen
        unfold nodeA at tg
        rw [← hy] at ln1 ln2 ho ⊢
        generalize (startN s l).2 = kk
        clear hy
        go_wp2_with fail
        go_roundw
        case rel => exact ⟨k - 1, y.s, y.l, A7, c7, by omega, by go_num, (N6.out.fill hRT hcT h0T y.s ho.out (by omega)).alloc _, ln1⟩
        case measure => simp [intOf]; omega
      · by_cases hx1 : x = 1
        · subst hx1
          go_wp2_with fail
          refine (sNodeTime_any s B d l s.step _ (N5.out.own.rd msgC_len)).mono ?_
          rintro e w6 ⟨A7, c7, B7, d7, rfl, hr, hkk⟩
          have N6 := Lib.hid (N5.out.below (hkk.below fun q h => h))
          obtain ⟨a1, b1, a2, b2, o1, o2, p1, p2, p3, p4, p5, p6, p7⟩ := hr.split hkk.size
          obtain ⟨ln1, ln2⟩ := timeN_len s l s.step
          have ho := Lib.hid (o1.wide (lo' := w2.heap.size + 1) (hi' := w6.heap.size) (by omega) (by omega))
          obtain ⟨y, hy⟩ : ∃ y, y = (timeN s l s.step).1 := ⟨_, rfl⟩
          have h6 := N6.out.box.lt
          clear tg tf hr hkk o1 o2 N5
          have tg := N6.out.box.cell
          have tf := N6.out.box.frozen
          unfold nodeA at tg
          rw [← hy] at ln1 ln2 ho ⊢
          generalize (timeN s l s.step).2 = kk
          clear hy
          go_wp2_with fail
          go_roundw
          case rel => exact ⟨k - 1, y.s, y.l, A7, c7, by omega, by go_num, (N6.out.fill hRT hcT h0T y.s ho.out (by omega)).alloc _, ln1⟩
          case measure => simp [intOf]; omega
        · have hxb : (x == 0) = false := by simpa using hx
          have hxb1 : (x == 1) = false := by simpa using hx1
          -- R6 (dn4.py)
          go_upto_region 6 with fail
          go_cut [14, 15, 16] (fun sp _ _ wx => ∃ (q : Nat) (y : RunS) (A1 : Option Addr) (c1 : Nat), sp = .pointer (some ⟨q, 0, none⟩) ∧ w5.heap.size ≤ q ∧ Blk wx q 79 (nodeA y.s A1 y.l.length c1) ∧ OwnL msgC 5 49 wx w5.heap.size wx.heap.size A1 y.l.length c1 y.l ∧ y.l.length ≤ 2000 ∧ Chg cb (cb + 1) w5 wx ∧ Cur wx cb A n c)
          case first =>
            refine wp_region_core [0, 1, 2, 3, 4, 5, 6, 7, 8, 9, 10] (fun w => Chg cb (cb + 1) w5 w ∧ Cur w cb A n c) (fun j wa wb => match j with | 2 => Chg cb (cb + 1) wa wb | 9 => BoxTurn 79 wa wb | _ => Below wa.heap.size wa wb) (fun i b w => match i with
              | 0 => b.tmps.getD 34 undef = .agg #[.int .i64 s.me, .int .i64 s.round, .int .i64 s.step, .int .i64 s.lv, .int .i64 s.lr, .int .i64 s.vv, .int .i64 s.vr, .int .i64 s.polka, .int .i64 s.dec, .slice B l.length d]
              | 1 => b.tmps.getD 35 undef = .pointer (some ⟨cb, 0, none⟩)
              | 2 => ∃ m : NMsgD, b.tmps.getD 36 undef = .agg #[.int .i64 m.k, .int .i64 m.r, .int .i64 m.v, .int .i64 m.p, .int .i64 m.f]
              | 3 => ∃ (y : RunS) (k1 : Bool) (A1 : Option Addr) (c1 : Nat) (B1 : Option Addr) (d1 : Nat), b.tmps.getD 37 undef = .tuple #[.agg #[.int .i64 y.s.me, .int .i64 y.s.round, .int .i64 y.s.step, .int .i64 y.s.lv, .int .i64 y.s.lr, .int .i64 y.s.vv, .int .i64 y.s.vr, .int .i64 y.s.polka, .int .i64 y.s.dec, .slice A1 y.l.length c1], .slice B1 y.o.length d1, .bool k1] ∧ Rows w (fun q => q < w5.heap.size) A1 c1 B1 d1 y ∧ y.l.length ≤ 2000
              | 4 => ∃ (y : RunS) (k1 : Bool) (A1 : Option Addr) (c1 : Nat) (B1 : Option Addr) (d1 : Nat), b.tmps.getD 33 undef = .tuple #[.agg #[.int .i64 y.s.me, .int .i64 y.s.round, .int .i64 y.s.step, .int .i64 y.s.lv, .int .i64 y.s.lr, .int .i64 y.s.vv, .int .i64 y.s.vr, .int .i64 y.s.polka, .int .i64 y.s.dec, .slice A1 y.l.length c1], .slice B1 y.o.length d1, .bool k1] ∧ Rows w (fun q => q < w5.heap.size) A1 c1 B1 d1 y ∧ y.l.length ≤ 2000
              | 5 => ∃ (y : RunS) (A1 : Option Addr) (c1 : Nat), b.tmps.getD 38 undef = .agg #[.int .i64 y.s.me, .int .i64 y.s.round, .int .i64 y.s.step, .int .i64 y.s.lv, .int .i64 y.s.lr, .int .i64 y.s.vv, .int .i64 y.s.vr, .int .i64 y.s.polka, .int .i64 y.s.dec, .slice A1 y.l.length c1] ∧ OwnL msgC 5 49 w w5.heap.size w.heap.size A1 y.l.length c1 y.l ∧ y.l.length ≤ 2000
              | 6 => True
              | 7 => True
              | 8 => ∃ (q : Nat) (cs : Array Value), b.tmps.getD 14 undef = .pointer (some ⟨q, 0, none⟩) ∧ w5.heap.size ≤ q ∧ cs.size = 10 ∧ Blk w q 79 cs
              | 9 => ∃ (q : Nat) (y : RunS) (A1 : Option Addr) (c1 : Nat), b.tmps.getD 14 undef = .pointer (some ⟨q, 0, none⟩) ∧ w5.heap.size ≤ q ∧ Blk w q 79 (nodeA y.s A1 y.l.length c1) ∧ OwnL msgC 5 49 w w5.heap.size w.heap.size A1 y.l.length c1 y.l ∧ y.l.length ≤ 2000
              | 10 => True
              | _ => True) (by kernel_rfl) (by kernel_rfl) (⟨(Chg.refl _ _ _).drew, N5.out.cur.drew⟩) ?_ ?_ ?_
            · intro b wa wb i j oj v hi hj hij hoj hdep hE h
              simp only [List.mem_cons, List.not_mem_nil, or_false] at hi hj
              rcases hj with rfl | rfl | rfl | rfl | rfl | rfl | rfl | rfl | rfl | rfl | rfl
              all_goals obtain rfl := Option.some.inj hoj
              · rcases hi with rfl | rfl | rfl | rfl | rfl | rfl | rfl | rfl | rfl | rfl | rfl
                all_goals first | exact absurd rfl hij | exact trivial | (simp only at hE h ⊢; (first | exact trivial | exact getk' h (by decide) | (obtain ⟨m, e⟩ := h; exact ⟨m, getk' e (by decide)⟩) | (obtain ⟨y, k1, A1, c1, B1, d1, e, h, hl⟩ := h; exact ⟨y, k1, A1, c1, B1, d1, getk' e (by decide), h.below hE, hl⟩) | (obtain ⟨y, A1, c1, e, h, hl⟩ := h; exact ⟨y, A1, c1, getk' e (by decide), (h.below hE (Nat.le_refl _)).wide (Nat.le_refl _) hE.size, hl⟩) | (obtain ⟨q, cs, e, h1, h2, h3⟩ := h; exact ⟨q, cs, getk' e (by decide), h1, h2, h3.below hE h3.lt⟩) | (obtain ⟨q, y, A1, c1, e, h1, h3, h, hl⟩ := h; exact ⟨q, y, A1, c1, getk' e (by decide), h1, h3.below hE h3.lt, (h.below hE (Nat.le_refl _)).wide (Nat.le_refl _) hE.size, hl⟩))) | exact absurd rfl (hdep _ rfl ⟨0, .data⟩ (by simp) rfl)
              · rcases hi with rfl | rfl | rfl | rfl | rfl | rfl | rfl | rfl | rfl | rfl | rfl
                all_goals first | exact absurd rfl hij | exact trivial | (simp only at hE h ⊢; (first | exact trivial | exact getk' h (by decide) | (obtain ⟨m, e⟩ := h; exact ⟨m, getk' e (by decide)⟩) | (obtain ⟨y, k1, A1, c1, B1, d1, e, h, hl⟩ := h; exact ⟨y, k1, A1, c1, B1, d1, getk' e (by decide), h.below hE, hl⟩) | (obtain ⟨y, A1, c1, e, h, hl⟩ := h; exact ⟨y, A1, c1, getk' e (by decide), (h.below hE (Nat.le_refl _)).wide (Nat.le_refl _) hE.size, hl⟩) | (obtain ⟨q, cs, e, h1, h2, h3⟩ := h; exact ⟨q, cs, getk' e (by decide), h1, h2, h3.below hE h3.lt⟩) | (obtain ⟨q, y, A1, c1, e, h1, h3, h, hl⟩ := h; exact ⟨q, y, A1, c1, getk' e (by decide), h1, h3.below hE h3.lt, (h.below hE (Nat.le_refl _)).wide (Nat.le_refl _) hE.size, hl⟩))) | exact absurd rfl (hdep _ rfl ⟨1, .data⟩ (by simp) rfl)
              · rcases hi with rfl | rfl | rfl | rfl | rfl | rfl | rfl | rfl | rfl | rfl | rfl
                all_goals first | exact absurd rfl hij | exact trivial | (simp only at hE h ⊢; (first | exact trivial | exact getk' h (by decide) | (obtain ⟨m, e⟩ := h; exact ⟨m, getk' e (by decide)⟩) | (obtain ⟨y, k1, A1, c1, B1, d1, e, h, hl⟩ := h; exact ⟨y, k1, A1, c1, B1, d1, getk' e (by decide), h.chg hE (fun q h1 h2 => by omega), hl⟩) | (obtain ⟨y, A1, c1, e, h, hl⟩ := h; exact ⟨y, A1, c1, getk' e (by decide), (h.chg hE (.inr (by omega))).wide (Nat.le_refl _) hE.size, hl⟩) | (obtain ⟨q, cs, e, h1, h2, h3⟩ := h; exact ⟨q, cs, getk' e (by decide), h1, h2, (hE.block q h3.lt (.inr (by omega))).trans h3⟩) | (obtain ⟨q, y, A1, c1, e, h1, h3, h, hl⟩ := h; exact ⟨q, y, A1, c1, getk' e (by decide), h1, (hE.block q h3.lt (.inr (by omega))).trans h3, (h.chg hE (.inr (by omega))).wide (Nat.le_refl _) hE.size, hl⟩))) | exact absurd rfl (hdep _ rfl ⟨2, .data⟩ (by simp) rfl)
              · rcases hi with rfl | rfl | rfl | rfl | rfl | rfl | rfl | rfl | rfl | rfl | rfl
                all_goals first | exact absurd rfl hij | exact trivial | (simp only at hE h ⊢; (first | exact trivial | exact getk' h (by decide) | (obtain ⟨m, e⟩ := h; exact ⟨m, getk' e (by decide)⟩) | (obtain ⟨y, k1, A1, c1, B1, d1, e, h, hl⟩ := h; exact ⟨y, k1, A1, c1, B1, d1, getk' e (by decide), h.below hE, hl⟩) | (obtain ⟨y, A1, c1, e, h, hl⟩ := h; exact ⟨y, A1, c1, getk' e (by decide), (h.below hE (Nat.le_refl _)).wide (Nat.le_refl _) hE.size, hl⟩) | (obtain ⟨q, cs, e, h1, h2, h3⟩ := h; exact ⟨q, cs, getk' e (by decide), h1, h2, h3.below hE h3.lt⟩) | (obtain ⟨q, y, A1, c1, e, h1, h3, h, hl⟩ := h; exact ⟨q, y, A1, c1, getk' e (by decide), h1, h3.below hE h3.lt, (h.below hE (Nat.le_refl _)).wide (Nat.le_refl _) hE.size, hl⟩))) | exact absurd rfl (hdep _ rfl ⟨3, .data⟩ (by simp) rfl)
              · rcases hi with rfl | rfl | rfl | rfl | rfl | rfl | rfl | rfl | rfl | rfl | rfl
                all_goals first | exact absurd rfl hij | exact trivial | (simp only at hE h ⊢; (first | exact trivial | exact getk' h (by decide) | (obtain ⟨m, e⟩ := h; exact ⟨m, getk' e (by decide)⟩) | (obtain ⟨y, k1, A1, c1, B1, d1, e, h, hl⟩ := h; exact ⟨y, k1, A1, c1, B1, d1, getk' e (by decide), h.below hE, hl⟩) | (obtain ⟨y, A1, c1, e, h, hl⟩ := h; exact ⟨y, A1, c1, getk' e (by decide), (h.below hE (Nat.le_refl _)).wide (Nat.le_refl _) hE.size, hl⟩) | (obtain ⟨q, cs, e, h1, h2, h3⟩ := h; exact ⟨q, cs, getk' e (by decide), h1, h2, h3.below hE h3.lt⟩) | (obtain ⟨q, y, A1, c1, e, h1, h3, h, hl⟩ := h; exact ⟨q, y, A1, c1, getk' e (by decide), h1, h3.below hE h3.lt, (h.below hE (Nat.le_refl _)).wide (Nat.le_refl _) hE.size, hl⟩))) | exact absurd rfl (hdep _ rfl ⟨4, .data⟩ (by simp) rfl)
              · rcases hi with rfl | rfl | rfl | rfl | rfl | rfl | rfl | rfl | rfl | rfl | rfl
                all_goals first | exact absurd rfl hij | exact trivial | (simp only at hE h ⊢; (first | exact trivial | exact getk' h (by decide) | (obtain ⟨m, e⟩ := h; exact ⟨m, getk' e (by decide)⟩) | (obtain ⟨y, k1, A1, c1, B1, d1, e, h, hl⟩ := h; exact ⟨y, k1, A1, c1, B1, d1, getk' e (by decide), h.below hE, hl⟩) | (obtain ⟨y, A1, c1, e, h, hl⟩ := h; exact ⟨y, A1, c1, getk' e (by decide), (h.below hE (Nat.le_refl _)).wide (Nat.le_refl _) hE.size, hl⟩) | (obtain ⟨q, cs, e, h1, h2, h3⟩ := h; exact ⟨q, cs, getk' e (by decide), h1, h2, h3.below hE h3.lt⟩) | (obtain ⟨q, y, A1, c1, e, h1, h3, h, hl⟩ := h; exact ⟨q, y, A1, c1, getk' e (by decide), h1, h3.below hE h3.lt, (h.below hE (Nat.le_refl _)).wide (Nat.le_refl _) hE.size, hl⟩))) | exact absurd rfl (hdep _ rfl ⟨5, .data⟩ (by simp) rfl)
              · rcases hi with rfl | rfl | rfl | rfl | rfl | rfl | rfl | rfl | rfl | rfl | rfl
                all_goals first | exact absurd rfl hij | exact trivial | (simp only at hE h ⊢; (first | exact trivial | exact getk' h (by decide) | (obtain ⟨m, e⟩ := h; exact ⟨m, getk' e (by decide)⟩) | (obtain ⟨y, k1, A1, c1, B1, d1, e, h, hl⟩ := h; exact ⟨y, k1, A1, c1, B1, d1, getk' e (by decide), h.below hE, hl⟩) | (obtain ⟨y, A1, c1, e, h, hl⟩ := h; exact ⟨y, A1, c1, getk' e (by decide), (h.below hE (Nat.le_refl _)).wide (Nat.le_refl _) hE.size, hl⟩) | (obtain ⟨q, cs, e, h1, h2, h3⟩ := h; exact ⟨q, cs, getk' e (by decide), h1, h2, h3.below hE h3.lt⟩) | (obtain ⟨q, y, A1, c1, e, h1, h3, h, hl⟩ := h; exact ⟨q, y, A1, c1, getk' e (by decide), h1, h3.below hE h3.lt, (h.below hE (Nat.le_refl _)).wide (Nat.le_refl _) hE.size, hl⟩))) | exact absurd rfl (hdep _ rfl ⟨6, .data⟩ (by simp) rfl)
              · rcases hi with rfl | rfl | rfl | rfl | rfl | rfl | rfl | rfl | rfl | rfl | rfl
                all_goals first | exact absurd rfl hij | exact trivial | (simp only at hE h ⊢; (first | exact trivial | exact getk' h (by decide) | (obtain ⟨m, e⟩ := h; exact ⟨m, getk' e (by decide)⟩) | (obtain ⟨y, k1, A1, c1, B1, d1, e, h, hl⟩ := h; exact ⟨y, k1, A1, c1, B1, d1, getk' e (by decide), h.below hE, hl⟩) | (obtain ⟨y, A1, c1, e, h, hl⟩ := h; exact ⟨y, A1, c1, getk' e (by decide), (h.below hE (Nat.le_refl _)).wide (Nat.le_refl _) hE.size, hl⟩) | (obtain ⟨q, cs, e, h1, h2, h3⟩ := h; exact ⟨q, cs, getk' e (by decide), h1, h2, h3.below hE h3.lt⟩) | (obtain ⟨q, y, A1, c1, e, h1, h3, h, hl⟩ := h; exact ⟨q, y, A1, c1, getk' e (by decide), h1, h3.below hE h3.lt, (h.below hE (Nat.le_refl _)).wide (Nat.le_refl _) hE.size, hl⟩))) | exact absurd rfl (hdep _ rfl ⟨7, .data⟩ (by simp) rfl)
              · rcases hi with rfl | rfl | rfl | rfl | rfl | rfl | rfl | rfl | rfl | rfl | rfl
                all_goals first | exact absurd rfl hij | exact trivial | (simp only at hE h ⊢; (first | exact trivial | exact getk' h (by decide) | (obtain ⟨m, e⟩ := h; exact ⟨m, getk' e (by decide)⟩) | (obtain ⟨y, k1, A1, c1, B1, d1, e, h, hl⟩ := h; exact ⟨y, k1, A1, c1, B1, d1, getk' e (by decide), h.below hE, hl⟩) | (obtain ⟨y, A1, c1, e, h, hl⟩ := h; exact ⟨y, A1, c1, getk' e (by decide), (h.below hE (Nat.le_refl _)).wide (Nat.le_refl _) hE.size, hl⟩) | (obtain ⟨q, cs, e, h1, h2, h3⟩ := h; exact ⟨q, cs, getk' e (by decide), h1, h2, h3.below hE h3.lt⟩) | (obtain ⟨q, y, A1, c1, e, h1, h3, h, hl⟩ := h; exact ⟨q, y, A1, c1, getk' e (by decide), h1, h3.below hE h3.lt, (h.below hE (Nat.le_refl _)).wide (Nat.le_refl _) hE.size, hl⟩))) | exact absurd rfl (hdep _ rfl ⟨8, .data⟩ (by simp) rfl)
              · rcases hi with rfl | rfl | rfl | rfl | rfl | rfl | rfl | rfl | rfl | rfl | rfl
                all_goals first | exact absurd rfl hij | exact trivial | (simp only at hE h ⊢; (first | exact trivial | exact getk' h (by decide) | (obtain ⟨m, e⟩ := h; exact ⟨m, getk' e (by decide)⟩) | (obtain ⟨y, k1, A1, c1, B1, d1, e, h, hl⟩ := h; exact ⟨y, k1, A1, c1, B1, d1, getk' e (by decide), h.turn' hE, hl⟩) | (obtain ⟨y, A1, c1, e, h, hl⟩ := h; exact ⟨y, A1, c1, getk' e (by decide), hE.row (by decide) h, hl⟩) | (obtain ⟨q, cs, e, h1, h2, h3⟩ := h; (obtain ⟨cs', g1, g2⟩ := hE.box h3; exact ⟨q, cs', getk' e (by decide), h1, g1.trans h2, g2⟩)) | (obtain ⟨q, y, A1, c1, e, h1, h3, h, hl⟩ := h; exact ⟨q, y, A1, c1, getk' e (by decide), h1, h3, hE.row (by decide) h, hl⟩))) | exact absurd rfl (hdep _ rfl ⟨9, .data⟩ (by simp) rfl)
              · rcases hi with rfl | rfl | rfl | rfl | rfl | rfl | rfl | rfl | rfl | rfl | rfl
                all_goals first | exact absurd rfl hij | exact trivial | (simp only at hE h ⊢; (first | exact trivial | exact getk' h (by decide) | (obtain ⟨m, e⟩ := h; exact ⟨m, getk' e (by decide)⟩) | (obtain ⟨y, k1, A1, c1, B1, d1, e, h, hl⟩ := h; exact ⟨y, k1, A1, c1, B1, d1, getk' e (by decide), h.below hE, hl⟩) | (obtain ⟨y, A1, c1, e, h, hl⟩ := h; exact ⟨y, A1, c1, getk' e (by decide), (h.below hE (Nat.le_refl _)).wide (Nat.le_refl _) hE.size, hl⟩) | (obtain ⟨q, cs, e, h1, h2, h3⟩ := h; exact ⟨q, cs, getk' e (by decide), h1, h2, h3.below hE h3.lt⟩) | (obtain ⟨q, y, A1, c1, e, h1, h3, h, hl⟩ := h; exact ⟨q, y, A1, c1, getk' e (by decide), h1, h3.below hE h3.lt, (h.below hE (Nat.le_refl _)).wide (Nat.le_refl _) hE.size, hl⟩))) | exact absurd rfl (hdep _ rfl ⟨10, .data⟩ (by simp) rfl)
            · intro j o hj ho a' w' hC hsame hdep
              have hz : w5.heap.size ≤ w'.heap.size := hC.1.size
              simp only [List.mem_cons, List.not_mem_nil, or_false] at hj
              rcases hj with rfl | rfl | rfl | rfl | rfl | rfl | rfl | rfl | rfl | rfl | rfl
              all_goals obtain rfl := Option.some.inj ho
              · have hs : a'.tmps.getD 5 undef = .pointer (some ⟨w2.heap.size, 0, none⟩) := hsame 5 (by rfl)
                have zz : ∀ o, w'.cell? ⟨w2.heap.size, o, none⟩ = _ := fun o => (hC.1.cell (k := w2.heap.size) h5 (.inr (by omega))).trans (tg o)
                refine wp_val (w2 := w') (.agg #[.int .i64 s.me, .int .i64 s.round, .int .i64 s.step, .int .i64 s.lv, .int .i64 s.lr, .int .i64 s.vv, .int .i64 s.vr, .int .i64 s.polka, .int .i64 s.dec, .slice B l.length d]) (fun K hK => ?_) ⟨_, rfl, hC, Below.refl _ _, fun b hb hb2 => hb 34 rfl⟩
                clear hsame hdep
                unfold Oper.wp
                simp [execOp, Act.eval, go_sem, hs, zz]
                exact hK
              · have hs : a'.tmps.getD 0 undef = .pointer (some ⟨cb, 0, none⟩) := hsame 0 (by rfl)
                refine wp_val (w2 := w') (.pointer (some ⟨cb, 0, none⟩)) (fun K hK => ?_) ⟨_, rfl, hC, Below.refl _ _, fun b hb hb2 => hb 35 rfl⟩
                clear hsame hdep
                unfold Oper.wp
                simp [execOp, Act.eval, go_sem, hs]
                exact hK
              · have e1 : a'.tmps.getD 35 undef = .pointer (some ⟨cb, 0, none⟩) := hdep ⟨1, .data⟩ (by simp) rfl
                refine wp_call (fun u wq => (∃ m : NMsgD, u = .agg #[.int .i64 m.k, .int .i64 m.r, .int .i64 m.v, .int .i64 m.p, .int .i64 m.f]) ∧ Chg cb (cb + 1) w' wq ∧ Cur wq cb A n c) (fun K hK => ?_) ?_
                · clear hsame hdep
                  unfold Oper.wp
                  simp [Act.eval, e1, go_sem]
                  refine (l16Msg_any cb A n c _ hC.2).mono ?_
                  rintro e w3 ⟨v, rfl, ⟨x1, x2, x3, x4, x5, rfl⟩, hg, hu⟩
                  exact hK _ _ ⟨⟨⟨x1, x2, x3, x4, x5⟩, rfl⟩, hg, hu⟩
                · rintro u w3 ⟨⟨m, rfl⟩, hg, hu⟩
                  exact ⟨_, rfl, ⟨hC.1.trans hg, hu⟩, hg, fun b hb _ => ⟨m, hb 36 rfl⟩⟩
              · have e1 : a'.tmps.getD 34 undef = .agg #[.int .i64 s.me, .int .i64 s.round, .int .i64 s.step, .int .i64 s.lv, .int .i64 s.lr, .int .i64 s.vv, .int .i64 s.vr, .int .i64 s.polka, .int .i64 s.dec, .slice B l.length d] := hdep ⟨0, .data⟩ (by simp) rfl
                obtain ⟨m, e2⟩ := hdep ⟨2, .data⟩ (by simp) rfl
                have hr : RdL msgC 5 w' w'.heap.size B l.length d l := ((N5.out.own.chg hC.1 (.inr (by omega))).rd msgC_len).more hz
                refine wp_call (fun u wq => ∃ (y : RunS) (k1 : Bool) (A1 : Option Addr) (c1 : Nat) (B1 : Option Addr) (d1 : Nat), u = .tuple #[.agg #[.int .i64 y.s.me, .int .i64 y.s.round, .int .i64 y.s.step, .int .i64 y.s.lv, .int .i64 y.s.lr, .int .i64 y.s.vv, .int .i64 y.s.vr, .int .i64 y.s.polka, .int .i64 y.s.dec, .slice A1 y.l.length c1], .slice B1 y.o.length d1, .bool k1] ∧ (Rows wq (fun q => q < w5.heap.size) A1 c1 B1 d1 y ∧ y.l.length ≤ 2000) ∧ Below w'.heap.size w' wq) (fun K hK => ?_) ?_
                · clear hsame hdep
                  unfold Oper.wp
                  simp [Act.eval, e1, e2, go_sem]
                  refine (sNodeGet_any s B d l m _ hr).mono ?_
                  rintro e w3 ⟨A7, c7, B7, d7, rfl, hrr, hkk⟩
                  exact hK _ _ ⟨_, _, A7, c7, B7, d7, rfl, ⟨hrr.mono fun q hq => Nat.lt_of_lt_of_le hq hz, (getN_len s l m).1⟩, hkk.below fun q hq => hq⟩
                · rintro u w3 ⟨y, k1, A7, c7, B7, d7, rfl, hrr, hb3⟩
                  exact ⟨_, rfl, ⟨hC.1.below_trans hb3, hC.2.below hb3 hC.2.lt (Nat.le_refl _)⟩, hb3, fun b hb _ => ⟨y, k1, A7, c7, B7, d7, hb 37 rfl, hrr⟩⟩
              · obtain ⟨y, k1, A7, c7, B7, d7, e1, hrr⟩ := hdep ⟨3, .data⟩ (by simp) rfl
                refine wp_val (w2 := w') (.tuple #[.agg #[.int .i64 y.s.me, .int .i64 y.s.round, .int .i64 y.s.step, .int .i64 y.s.lv, .int .i64 y.s.lr, .int .i64 y.s.vv, .int .i64 y.s.vr, .int .i64 y.s.polka, .int .i64 y.s.dec, .slice A7 y.l.length c7], .slice B7 y.o.length d7, .bool k1]) (fun K hK => ?_) ⟨_, rfl, hC, Below.refl _ _, fun b hb hb2 => ⟨y, k1, A7, c7, B7, d7, hb 33 rfl, hrr⟩⟩
                clear hsame hdep
                unfold Oper.wp
                simp [execOp, Act.eval, go_sem, e1]
                exact hK
              · obtain ⟨y, k1, A7, c7, B7, d7, e1, hrr, hl⟩ := hdep ⟨4, .data⟩ (by simp) rfl
                have hro := hrr.msgs hz
                refine wp_val (w2 := w') (.agg #[.int .i64 y.s.me, .int .i64 y.s.round, .int .i64 y.s.step, .int .i64 y.s.lv, .int .i64 y.s.lr, .int .i64 y.s.vv, .int .i64 y.s.vr, .int .i64 y.s.polka, .int .i64 y.s.dec, .slice A7 y.l.length c7]) (fun K hK => ?_) ⟨_, rfl, hC, Below.refl _ _, fun b hb hb2 => ⟨y, A7, c7, hb 38 rfl, hro, hl⟩⟩
                clear hsame hdep hro
                unfold Oper.wp
                simp [execOp, Act.eval, go_sem, e1]
                exact hK
              · obtain ⟨y, k1, A7, c7, B7, d7, e1, hrr, hl⟩ := hdep ⟨4, .data⟩ (by simp) rfl
                refine wp_val (w2 := w') (.slice B7 y.o.length d7) (fun K hK => ?_) ⟨_, rfl, hC, Below.refl _ _, fun b hb hb2 => trivial⟩
                clear hsame hdep
                unfold Oper.wp
                simp [execOp, Act.eval, go_sem, e1]
                exact hK
              · obtain ⟨y, k1, A7, c7, B7, d7, e1, hrr, hl⟩ := hdep ⟨4, .data⟩ (by simp) rfl
                refine wp_val (w2 := w') (.bool k1) (fun K hK => ?_) ⟨_, rfl, hC, Below.refl _ _, fun b hb hb2 => trivial⟩
                clear hsame hdep
                unfold Oper.wp
                simp [execOp, Act.eval, go_sem, e1]
                exact hK
              · refine wp_val (w2 := w'.alloc (.cells #[.int .i64 0, .int .i64 0, .int .i64 0, .int .i64 0, .int .i64 0, .int .i64 0, .int .i64 0, .int .i64 0, .int .i64 0, .slice none 0 0] 79)) (.pointer (some ⟨w'.heap.size, 0, none⟩)) (fun K hK => ?_) ⟨_, rfl, ⟨hC.1.alloc _, hC.2.alloc _⟩, (Below.refl _ _).alloc (Nat.le_refl _) _, fun b hb hb2 => ⟨w'.heap.size, _, hb 14 rfl, hz, rfl, heap_alloc_new w' _⟩⟩
                clear hsame hdep
                unfold Oper.wp
                simp [execOp, go_sem]
                exact hK
              · obtain ⟨q0, cs0, e1, hq0, hsz, hblk⟩ := hdep ⟨8, .data⟩ (by simp) rfl
                obtain ⟨y, A7, c7, e2, hro, hl⟩ := hdep ⟨5, .data⟩ (by simp) rfl
                obtain ⟨lc⟩ := cs0
                obtain ⟨k0, k1, k2, k3, k4, k5, k6, k7, k8, k9, rfl⟩ := list10 (l := lc) (by simpa using hsz)
                have f0 : w'.cell? ⟨q0, 0, none⟩ = some k0 := by rw [hblk.cell]; rfl
                have f1 : w'.cell? ⟨q0, 1, none⟩ = some k1 := by rw [hblk.cell]; rfl
                have f2 : w'.cell? ⟨q0, 2, none⟩ = some k2 := by rw [hblk.cell]; rfl
                have f3 : w'.cell? ⟨q0, 3, none⟩ = some k3 := by rw [hblk.cell]; rfl
                have f4 : w'.cell? ⟨q0, 4, none⟩ = some k4 := by rw [hblk.cell]; rfl
                have f5 : w'.cell? ⟨q0, 5, none⟩ = some k5 := by rw [hblk.cell]; rfl
                have f6 : w'.cell? ⟨q0, 6, none⟩ = some k6 := by rw [hblk.cell]; rfl
                have f7 : w'.cell? ⟨q0, 7, none⟩ = some k7 := by rw [hblk.cell]; rfl
                have f8 : w'.cell? ⟨q0, 8, none⟩ = some k8 := by rw [hblk.cell]; rfl
                have f9 : w'.cell? ⟨q0, 9, none⟩ = some k9 := by rw [hblk.cell]; rfl
                have ff := hblk.frozen
                obtain ⟨w9, hw9⟩ : ∃ z, z = ((((((((((w'.setCell ⟨q0, 0, none⟩ (.int .i64 y.s.me)).setCell ⟨q0, 1, none⟩ (.int .i64 y.s.round)).setCell ⟨q0, 2, none⟩ (.int .i64 y.s.step)).setCell ⟨q0, 3, none⟩ (.int .i64 y.s.lv)).setCell ⟨q0, 4, none⟩ (.int .i64 y.s.lr)).setCell ⟨q0, 5, none⟩ (.int .i64 y.s.vv)).setCell ⟨q0, 6, none⟩ (.int .i64 y.s.vr)).setCell ⟨q0, 7, none⟩ (.int .i64 y.s.polka)).setCell ⟨q0, 8, none⟩ (.int .i64 y.s.dec)).setCell ⟨q0, 9, none⟩ (.slice A7 y.l.length c7)) := ⟨_, rfl⟩
                have hchg : Chg q0 (q0 + 1) w' w9 := by rw [hw9]; (repeat (first | with_reducible refine Chg.setCell ?_ (by first | exact Nat.le_refl _ | (simp; done) | (simp; omega)) (by first | (simp; done) | (simp; omega)) _ | with_reducible refine Chg.alloc ?_ _ | with_reducible refine Chg.drew ?_)); (with_reducible exact Chg.refl _ _ _)
                have hblk2 : Blk w9 q0 79 (nodeA y.s A7 y.l.length c7) := by
                  rw [hw9]
                  have hb := ((((((((((hblk.set_ 0 (.int .i64 y.s.me)).set_ 1 (.int .i64 y.s.round)).set_ 2 (.int .i64 y.s.step)).set_ 3 (.int .i64 y.s.lv)).set_ 4 (.int .i64 y.s.lr)).set_ 5 (.int .i64 y.s.vv)).set_ 6 (.int .i64 y.s.vr)).set_ 7 (.int .i64 y.s.polka)).set_ 8 (.int .i64 y.s.dec)).set_ 9 (.slice A7 y.l.length c7))
                  simp only [List.setIfInBounds_toArray, List.set_cons_zero, List.set_cons_succ] at hb
                  exact hb
                have hturn := BoxTurn.of_blk hblk hblk2 rfl hchg
                have hown := hturn.row (by decide) hro
                have hcls : Chg cb (cb + 1) w5 w9 ∧ Cur w9 cb A n c := ⟨hC.1.trans_top' (D := q0) hq0 hchg, hC.2.chg hchg (by omega)⟩
                refine wp_val (w2 := w9) undef (fun K hK => ?_) ⟨_, rfl, hcls, hturn, fun b _ hb => ⟨q0, y, A7, c7, (hb 14 (by intro d h; cases h)).trans e1, hq0, hblk2, hown, hl⟩⟩
                rw [hw9] at hK
                clear hsame hdep hchg hblk2 hturn hcls hown hw9
                unfold Oper.wp
                simp [execOp, Act.eval, e1, e2, go_sem, f0, f1, f2, f3, f4, f5, f6, f7, f8, f9, ff]
                exact hK
              · refine wp_val (w2 := w') ((a'.tmps[39]?).getD undef) (fun K hK => ?_) ⟨_, rfl, hC, Below.refl _ _, fun b hb hb2 => trivial⟩
                clear hsame hdep
                unfold Oper.wp
                simp [execOp, Act.eval, go_sem]
                exact hK
            · intro a' w' hC ha hP
              obtain ⟨q0, y, A7, c7, e1, hq0, hblk, ho, hl⟩ := hP 9 (by simp)
              clear hP
              simp only [coreOps, List.filterMap_cons, List.filterMap_nil, List.getElem?_cons_zero, List.getElem?_cons_succ, fillA, slotOf, Act.put, e1] at ha
              generalize a'.tmps.getD 34 undef = u34 at ha
              generalize a'.tmps.getD 35 undef = u35 at ha
              generalize a'.tmps.getD 36 undef = u36 at ha
              generalize a'.tmps.getD 37 undef = u37 at ha
              generalize a'.tmps.getD 33 undef = u33 at ha
              generalize a'.tmps.getD 38 undef = u38 at ha
              generalize a'.tmps.getD 39 undef = u39 at ha
              generalize a'.tmps.getD 40 undef = u40 at ha
              generalize a'.tmps.getD 15 undef = u15 at ha
              subst ha
              show wpAny _ _ _ _ 1 _ _ _
              refine wpAny_ready (rs := [11]) (by kernel_rfl) (by simp) ?_
              refine AllReady.cons rfl (fun K hK => ?_) AllReady.nil
              go_simp
              refine hK _ _ ?_
              clear hK K
              refine wpAny_done (by kernel_rfl) ?_ _
              go_wp2_with fail
              go_meet
              exact ⟨q0, y, A7, c7, rfl, hq0, hblk, ho, hl, hC.1, hC.2⟩
          case rest =>
          obtain ⟨q0, y, A7, c7, rfl, hq0, hblk, ho, hln, hch, hcu⟩ := hcut
          obtain ⟨w6, hwc⟩ : ∃ q, q = wc := ⟨_, rfl⟩
          subst hwc
          have N6 := Lib.hid (N5.out.call hch hcu hlt hcT)
          have hO := Lib.hid (ho.wide (lo' := w2.heap.size + 1) (hi' := w6.heap.size) (by omega) (Nat.le_refl _))
          clear tg tf ho hch hcu
          have tg := N6.out.box.cell
          have tf := N6.out.box.frozen
          have h6 := N6.out.box.lt
          have yq := hblk.cell
          have hq6 := hblk.lt
          unfold nodeA at tg yq
          clear hblk N5
          go_wp2_with fail
          go_roundw
          case rel => exact ⟨k - 1, y.s, y.l, A7, c7, by omega, by go_num, N6.out.fill hRT hcT h0T y.s hO.out (by omega), hln⟩
          case measure => simp [intOf]; omega
    · go_wp2_with fail
      refine (l1Once_any cb A n c 10 _ NK.out.cur (by omega)).mono ?_
      rintro e w9 ⟨v, rfl, ⟨b, rfl⟩, hg, hu⟩
      have N9 := Lib.hid (NK.out.call hg hu hlt hcT)
      clear hg hu NK
      go_upto_if 63 with fail
      go_cut [] (fun wx => ∃ s l B d, NodeIn w cb A n c w.heap.size w2.heap.size wx s l B d)
      case first =>
        cases b
        · go_wp2_with fail
          go_meet
          exact ⟨s, l, B, d, N9.out⟩
        go_wp2_with fail
        refine (l1Below_any cb A n c 6 _ N9.out.cur (by omega)).mono ?_
        rintro e w10 ⟨v, rfl, ⟨x, rfl, y0, y1⟩, hg, hu⟩
        simp at y1
        have N10 := Lib.hid (N9.out.call hg hu hlt hcT)
        clear hg hu N9
        rcases (by omega : x = 0 ∨ x = 1 ∨ x = 2 ∨ x = 3 ∨ x = 4 ∨ x = 5) with rfl | rfl | rfl | rfl | rfl | rfl
        · go_wp2_with fail
          refine (l1PickInt_any cb A n c w10.heap.size 4 (-100) 100 _ (N10.out.cur.alloc _) (by decide) (by decide) N10.out.cur.lt (by simp) ?_).mono ?_
          · intro j hj
            rcases (by omega : j = 0 ∨ j = 1 ∨ j = 2 ∨ j = 3) with rfl | rfl | rfl | rfl
            · exact ⟨-2, by simp, by decide, by decide⟩
            · exact ⟨11, by simp, by decide, by decide⟩
            · exact ⟨12, by simp, by decide, by decide⟩
            · exact ⟨5, by simp, by decide, by decide⟩
          rintro e w11 ⟨v, rfl, ⟨z, rfl, _, _⟩, hg, hu⟩
          have N11 := Lib.hid ((N10.out.alloc _).call hg hu hlt hcT)
          clear hg hu N10
          have tg := N11.out.box.cell
          have tf := N11.out.box.frozen
          have ht7 := N11.out.box.lt
          unfold nodeA at tg
          go_wp2_with fail
          go_meet
          obtain ⟨s', hs'⟩ := N11.out.set hRT hcT h0T 1 (by decide) z
          exact ⟨s', l, B, d, hs'⟩
        · go_wp2_with fail
          refine (l1Below_any cb A n c 5 _ N10.out.cur (by omega)).mono ?_
          rintro e w11 ⟨v, rfl, ⟨z, rfl, z0, z1⟩, hg, hu⟩
          simp at z1
          have N11 := Lib.hid (N10.out.call hg hu hlt hcT)
          clear hg hu N10
          have tg := N11.out.box.cell
          have tf := N11.out.box.frozen
          have ht7 := N11.out.box.lt
          unfold nodeA at tg
          go_wp2_with fail
          go_meet
          obtain ⟨s', hs'⟩ := N11.out.set hRT hcT h0T 2 (by decide) z
          exact ⟨s', l, B, d, hs'⟩
        · go_wp2_with fail
          refine (l1Below_any cb A n c 3 _ N10.out.cur (by omega)).mono ?_
          rintro e w11 ⟨v, rfl, ⟨z, rfl, z0, z1⟩, hg, hu⟩
          simp at z1
          have N11 := Lib.hid (N10.out.call hg hu hlt hcT)
          clear hg hu N10
          have tg := N11.out.box.cell
          have tf := N11.out.box.frozen
          have ht7 := N11.out.box.lt
          unfold nodeA at tg
          go_wp2_with fail
          go_meet
          obtain ⟨s', hs'⟩ := N11.out.set hRT hcT h0T 3 (by decide) (z * 11)
          exact ⟨s', l, B, d, hs'⟩
        · go_wp2_with fail
          refine (l1Below_any cb A n c 4 _ N10.out.cur (by omega)).mono ?_
          rintro e w11 ⟨v, rfl, ⟨z, rfl, z0, z1⟩, hg, hu⟩
          simp at z1
          have N11 := Lib.hid (N10.out.call hg hu hlt hcT)
          clear hg hu N10
          have tg := N11.out.box.cell
          have tf := N11.out.box.frozen
          have ht7 := N11.out.box.lt
          unfold nodeA at tg
          go_wp2_with fail
          go_meet
          obtain ⟨s', hs'⟩ := N11.out.set hRT hcT h0T 6 (by decide) (z - 1)
          exact ⟨s', l, B, d, hs'⟩
        · obtain ⟨i0, hi, hz0, hz1, hz2⟩ := info_parts infoMsgS
          have tg := N10.out.box.cell
          have tf := N10.out.box.frozen
          have ht7 := N10.out.box.lt
          unfold nodeA at tg
          go_upto_region 26 with fail
          go_region_law (first
            | ((refine step_app_rd _ rfl _ _ _ rfl (w2.heap.size + 1) 49 i0 _ 5 40 Try.underlying25 hi hz0 hz1 hz2 rfl (by decide) (.slice B l.length d) l.length (l.flatMap msgC) rfl (by exact (N11.out.alloc _).own.owns msgC_len) _ _ 1 1 _ rfl (by exact Rd.one5S w11 ⟨x1, x2, x3, x4, x5⟩ _ (by first | rfl | simp)) (msgC_oneS _) (by unfold maxLen; omega) (by omega) (by first | (simp; done) | (simp; omega)) ?_)
               intro v2 w12 hown hg hat
               obtain ⟨B2, d2, rfl, tg12, tf12, ht12, hN12⟩ := (N11.out.alloc _).app (m := ⟨x1, x2, x3, x4, x5⟩) (by omega) hcT (by omega) h0T hown hg
               have N12 := Lib.hid hN12
               clear hown hg hat hN12
               unfold nodeA at tg12)
            | (go_simp; refine (l16Msg_any cb A n c _ (by exact N10.out.cur.drew)).mono ?_; rintro e w11 ⟨v, rfl, ⟨x1, x2, x3, x4, x5, rfl⟩, hg, hu⟩; have N11 := Lib.hid (N10.out.drew.call hg hu hlt hcT); clear hg hu; have tg11 := N11.out.box.cell; have tf11 := N11.out.box.frozen; have ht11 := N11.out.box.lt; unfold nodeA at tg11))
          all_goals
            go_wp2_with fail
            go_meet
            exact ⟨s, _, B2, d2, N12.out⟩
        · go_wp2_with fail
          refine (l1Below_any cb A n c 6 _ N10.out.cur (by omega)).mono ?_
          rintro e w11 ⟨v, rfl, ⟨z, rfl, z0, z1⟩, hg, hu⟩
          simp at z1
          have N11 := Lib.hid (N10.out.call hg hu hlt hcT)
          clear hg hu N10
          have tg := N11.out.box.cell
          have tf := N11.out.box.frozen
          have ht7 := N11.out.box.lt
          unfold nodeA at tg
          go_wp2_with fail
          go_meet
          obtain ⟨s', hs'⟩ := N11.out.set hRT hcT h0T 0 (by decide) z
          exact ⟨s', l, B, d, hs'⟩
      case rest =>
      obtain ⟨s', l', B', d', hN⟩ := hcut
      have N12 := Lib.hid hN
      have tg := hN.box.cell
      have tf := hN.box.frozen
      have ht7 := hN.box.lt
      have rg := hN.res.cell
      have rf := hN.res.frozen
      unfold nodeA at tg
      unfold zeroA at rg
      clear hN N9
      go_wp2_with fail
      refine bodyPost_ret (v := .agg #[.int .i64 s'.me, .int .i64 s'.round, .int .i64 s'.step, .int .i64 s'.lv, .int .i64 s'.lr, .int .i64 s'.vv, .int .i64 s'.vr, .int .i64 s'.polka, .int .i64 s'.dec, .slice B' l'.length d']) (by simp [results, Try.results86, go_sem, rg]) rfl ⟨s', l', B', d', rfl, ?_, N12.out.len, ?_, ?_⟩
      · refine OwnL.wide (N12.out.own.chg (lo' := w.heap.size) (hi' := w.heap.size + 1) ?_ (.inr (by omega))) (by omega) ?_
        · (repeat (first | with_reducible refine Chg.setCell ?_ (by first | exact Nat.le_refl _ | (simp; done) | (simp; omega)) (by first | (simp; done) | (simp; omega)) _ | with_reducible refine Chg.alloc ?_ _ | with_reducible refine Chg.drew ?_)); (with_reducible exact Chg.refl _ _ _)
        · simp only [World.size_setCell]; exact Nat.le_refl _
      · exact N12.out.chg.trans_top' (D := w.heap.size) (Nat.le_refl _) (by (repeat (first | with_reducible refine Chg.setCell ?_ (by first | exact Nat.le_refl _ | (simp; done) | (simp; omega)) (by first | (simp; done) | (simp; omega)) _ | with_reducible refine Chg.alloc ?_ _ | with_reducible refine Chg.drew ?_)); (with_reducible exact Chg.refl _ _ _))
      · refine N12.out.cur.chg (lo := w.heap.size) (hi := w.heap.size + 1) ?_ hlt
        (repeat (first | with_reducible refine Chg.setCell ?_ (by first | exact Nat.le_refl _ | (simp; done) | (simp; omega)) (by first | (simp; done) | (simp; omega)) _ | with_reducible refine Chg.alloc ?_ _ | with_reducible refine Chg.drew ?_)); (with_reducible exact Chg.refl _ _ _)
end Go.Proofs.Ytjgaelnonacdkaa
