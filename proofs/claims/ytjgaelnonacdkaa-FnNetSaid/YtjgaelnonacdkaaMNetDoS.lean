/- l17Do of the reference (written by wip/netdos.py). -/
import Derived.Deep.CutBlock
import Derived.WalkKit
import Derived.WalkSpells
import Derived.WalkLawsBesides
import Derived.Lib.Hide
import Derived.Test.YtjgaelnonacdkaaMNetS
import Derived.Test.YtjgaelnonacdkaaMNetDo
namespace Go.Proofs.Ytjgaelnonacdkaa
open Go.RowKit

def NetDoneS (lo hi0 : Nat) (r : List NodeD × List NMsgD × Bool) (w : World) (e : Ending) (w' : World) : Prop :=
  ∃ A c P d hi, e = .returned (.tuple #[.agg #[.slice A r.1.length c, .slice P r.2.1.length d], .bool r.2.2]) ∧ NetS w' lo hi A c P d r.1 r.2.1 ∧ Chg lo hi0 w w' ∧ ∀ T, T ≠ 79 → T ≠ 49 → ∀ q cs, Blk w q T cs → Blk w' q T cs
theorem NetDoneS.mk {r : List NodeD × List NMsgD × Bool} {ln : List NodeD} {lp : List NMsgD} {b : Bool} {w w' : World} {A : Option Addr} {c : Nat} {P : Option Addr} {d n p lo hi hi0 : Nat} (hr : r = (ln, lp, b)) (hn : ln.length = n) (hp : lp.length = p) (h : NetS w' lo hi A c P d ln lp) (hb : Chg lo hi0 w w') (ht : ∀ T, T ≠ 79 → T ≠ 49 → ∀ q cs, Blk w q T cs → Blk w' q T cs) :
    NetDoneS lo hi0 r w (.returned (.tuple #[.agg #[.slice A n c, .slice P p d], .bool b])) w' := by
  subst hr; subst hn; subst hp
  exact ⟨A, c, P, d, hi, rfl, h, hb, ht⟩
theorem Chg.then_below {lo hi : Nat} {w a b : World} (h : Chg lo hi w a) (k : Below w.heap.size a b) : Chg lo hi w b :=
  ⟨k.os.trans h.os, k.tape.trans h.tape, k.output.trans h.output, Nat.le_trans h.size k.size, fun q h1 h2 => (k.block q h1).trans (h.block q h1 h2)⟩
theorem grown_box {w w' : World} {lo hi n d q T : Nat} {P : Option Addr} {l : List NMsgD} {cs : Array Value} (hp : OwnL msgC 5 49 w lo hi P n d l) (hg : w.grownBy w' (Value.ownBlock (.slice P n d))) (ht : T ≠ 49) (hq : Blk w q T cs) : Blk w' q T cs := by
  refine (hg.block q hq.lt fun e => ?_).trans hq
  obtain ⟨cu, hu, _⟩ := hp.blk e.symm
  have h1 : w.heap[q]? = some (.cells cu 49 (0, 0)) := hu
  have h2 : w.heap[q]? = some (.cells cs T (0, 0)) := hq
  rw [h1] at h2
  simp only [Option.some.injEq, Obj.cells.injEq] at h2
  exact ht h2.2.1.symm
theorem Blk.stay {w w' : World} {g q T U : Nat} {cs cu : Array Value} (hg : Blk w g U cu) (hc : Chg g (g + 1) w w') (ht : T ≠ U) (hq : Blk w q T cs) : Blk w' q T cs := by
  refine (hc.block q hq.lt ?_).trans hq
  by_cases e : q = g
  · subst e
    have h1 : w.heap[q]? = some (.cells cu U (0, 0)) := hg
    have h2 : w.heap[q]? = some (.cells cs T (0, 0)) := hq
    rw [h1] at h2
    simp only [Option.some.injEq, Obj.cells.injEq] at h2
    exact absurd h2.2.1.symm ht
  · omega
theorem NodesX.by_box {w w' : World} {lo hi g n c : Nat} {A : Option Addr} {ln : List NodeD} {Q : Nat → Prop} {cs : Array Value} {T : TypeId} (h : NodesX w lo hi A n c ln Q) (hb : Blk w g T cs) (hT1 : T ≠ 79) (hT2 : T ≠ 49) (hc : Chg g (g + 1) w w') : NodesX w' lo hi A n c ln Q := by
  obtain ⟨lv, a, b, d, e, f⟩ := h
  refine ⟨lv, a.keep fun q h1 h2 eg => ?_, b, fun i v hv => ?_, e, f⟩
  · obtain ⟨cu, hu, _⟩ := a.blk eg
    refine hc.block q hu.lt ?_
    by_cases hq : q = g
    · subst hq
      have h1 : w.heap[q]? = some (.cells cu 79 (0, 0)) := hu
      have h2 : w.heap[q]? = some (.cells cs T (0, 0)) := hb
      rw [h1] at h2
      simp only [Option.some.injEq, Obj.cells.injEq] at h2
      exact absurd h2.2.1.symm hT1
    · omega
  · obtain ⟨x, p, q, r⟩ := d i v hv
    exact ⟨x, p, q, OwnL.by_box hb hT2 hc r⟩
theorem NetS.box {w w' : World} {lo hi g c d : Nat} {A P : Option Addr} {ln : List NodeD} {lp : List NMsgD} {cs : Array Value} {T : TypeId} (h : NetS w lo hi A c P d ln lp) (hb : Blk w g T cs) (hT1 : T ≠ 79) (hT2 : T ≠ 49) (hc : Chg g (g + 1) w w') : NetS w' lo hi A c P d ln lp :=
  ⟨h.hl, Nat.le_trans h.hh hc.size, h.nodes.by_box hb hT1 hT2 hc, OwnL.by_box hb hT2 hc h.pool⟩
theorem sMsgOk_b (m : NMsgD) (b : Bool) (w : World) (h : okMsg m = b) :
    Calls Try.prog 65 #[.agg #[.int .i64 m.k, .int .i64 m.r, .int .i64 m.v, .int .i64 m.p, .int .i64 m.f]] w fun e w' => e = .returned (.bool b) ∧ Below w.heap.size w w' := by
  have hh := sMsgOk_any m.k m.r m.v m.p m.f w
  rw [show msgB m.k m.r m.v m.p m.f = b from h] at hh
  exact hh
theorem l16Has_b (A : Option Addr) (n c : Nat) (l : List NMsgD) (m : NMsgD) (b : Bool) (w : World) (hl : RdL msgC 5 w w.heap.size A n c l) (h : hasB l m = b) :
    Calls Try.prog 56 #[.slice A n c, .agg #[.int .i64 m.k, .int .i64 m.r, .int .i64 m.v, .int .i64 m.p, .int .i64 m.f]] w fun e w' => e = .returned (.bool b) ∧ Below w.heap.size w w' := by
  have hh := l16Has_any A n c l m w hl
  rw [h] at hh
  exact hh
theorem l1In_b (x lo hi : Int) (b : Bool) (w : World) (h : inB x lo hi = b) :
    Calls Try.prog 66 #[.int .i64 x, .int .i64 lo, .int .i64 hi] w fun e w' => e = .returned (.bool b) ∧ w = w' := by
  have hh := l1In_any x lo hi w
  rw [h] at hh
  exact hh

set_option maxRecDepth 100000 in
set_option maxHeartbeats 8000000 in
theorem l17Do_any (lo hi : Nat) (A : Option Addr) (c : Nat) (P : Option Addr) (d : Nat) (ln : List NodeD) (lp : List NMsgD) (ak aa ab : Int) (m : NMsgD) (w : World) (hS : NetS w lo hi A c P d ln lp) (hB : netB ln lp = true) :
    Calls Try.prog 33 #[.agg #[.slice A ln.length c, .slice P lp.length d], .agg #[.int .i64 ak, .int .i64 aa, .int .i64 ab, .int .i64 m.k, .int .i64 m.r, .int .i64 m.v, .int .i64 m.p, .int .i64 m.f]] w (NetDoneS lo hi (netDoN ln lp ⟨ak, aa, ab, m⟩) w) := by
  have hB' := netB_iff.1 hB
  obtain ⟨h3, hpk, hp150, hnodes⟩ := hB'
  have HN := Lib.hid hnodes
  have hlo := hS.hl
  have hhi := hS.hh
  have HS := Lib.hid hS
  have hn3 : ln.length ≤ 3 := by omega
  have hn3' : 3 ≤ ln.length := by omega
  clear hpk h3 hnodes hB hS
  obtain ⟨i0, hi0, hz0, hz1, hz2⟩ := info_parts infoMsgS
  go_enter Try.func33, Try.ntmps33
  go_upto_region 1 with fail
  obtain ⟨w1, hw1⟩ : ∃ q, q = ((w.alloc (.cells #[.slice A ln.length c, .slice P lp.length d] 27)).alloc (.cells #[.int .i64 ak, .int .i64 aa, .int .i64 ab, .int .i64 m.k, .int .i64 m.r, .int .i64 m.v, .int .i64 m.p, .int .i64 m.f] 51)).alloc (.cells #[.slice none 0 0, .slice none 0 0] 27) := ⟨_, rfl⟩
  rw [← hw1]
  have hX1 : Blk w1 w.heap.size 27 #[.slice A ln.length c, .slice P lp.length d] := by rw [hw1]; exact (((show Blk (w.alloc _) w.heap.size _ _ from heap_alloc_new w _).alloc _).alloc _)
  have hY1 : Blk w1 (w.heap.size + 1) 51 #[.int .i64 ak, .int .i64 aa, .int .i64 ab, .int .i64 m.k, .int .i64 m.r, .int .i64 m.v, .int .i64 m.p, .int .i64 m.f] := by
    have h := heap_alloc_new (w.alloc (.cells #[.slice A ln.length c, .slice P lp.length d] 27)) (.cells #[.int .i64 ak, .int .i64 aa, .int .i64 ab, .int .i64 m.k, .int .i64 m.r, .int .i64 m.v, .int .i64 m.p, .int .i64 m.f] 51)
    rw [World.size_alloc] at h
    rw [hw1]
    exact (show Blk _ _ _ _ from h).alloc _
  have hR1 : Blk w1 (w.heap.size + 1 + 1) 27 #[.slice none 0 0, .slice none 0 0] := by rw [hw1]; exact blk_alloc3 w (.cells #[.slice A ln.length c, .slice P lp.length d] 27) (.cells #[.int .i64 ak, .int .i64 aa, .int .i64 ab, .int .i64 m.k, .int .i64 m.r, .int .i64 m.v, .int .i64 m.p, .int .i64 m.f] 51) #[.slice none 0 0, .slice none 0 0] 27
  have B1 : Hid (Below w.heap.size w w1) := Lib.hid (by rw [hw1]; exact (((Below.refl _ _).alloc (Nat.le_refl _) _).alloc (by simp) _).alloc (by simp; omega) _)
  have hs1 : w.heap.size + 3 ≤ w1.heap.size := by rw [hw1]; simp
  have Os1 := Lib.hid (HS.out.chg (Chg.of_below (lo := 0) (hi := 0) B1.out) (.inr (Nat.zero_le _)))
  have HBW1 := B1
  have Xx1 := Lib.hid hX1
  have Xy1 := Lib.hid hY1
  have Xr1 := Lib.hid hR1
  clear hw1 hX1 hY1 hR1
  have hlow : lo ≤ w.heap.size := by omega
  cases hk : (ak == 4)
  · skip
    have hk4 : (ak == 4) = false := hk
    clear hk
    cases g1 : inB aa 1 3
    · skip
      have G1 := Lib.hid g1
      clear g1
      have cex := Xx1.out.cell
      have fzx := Xx1.out.frozen
      have lbx := Xx1.out.lt
      have cey := Xy1.out.cell
      have fzy := Xy1.out.frozen
      have lby := Xy1.out.lt
      have cer := Xr1.out.cell
      have fzr := Xr1.out.frozen
      have lbr := Xr1.out.lt
      go_wp2_with fail
      refine (l1In_b aa 1 3 false _ G1.out).mono ?_
      rintro e w' ⟨rfl, rfl⟩
      clear cex fzx
      clear cey fzy
      clear cer fzr
      clear lbx
      clear lby
      clear lbr
      have cex := Xx1.out.cell
      have fzx := Xx1.out.frozen
      have lbx := Xx1.out.lt
      have cer := Xr1.out.cell
      have fzr := Xr1.out.frozen
      have lbr := Xr1.out.lt
      have cey := Xy1.out.cell
      have fzy := Xy1.out.frozen
      have lby := Xy1.out.lt
      have HE : Hid (netDoN ln lp ⟨ak, aa, ab, m⟩ = (ln, lp, false)) := Lib.hid (by have g1 := G1.out; unfold netDoN; simp [hk4, actBad, g1])
      go_wp2_with fail
      refine bodyPost_ret (v := .tuple #[.agg #[.slice A ln.length c, .slice P lp.length d], .bool false]) (by simp [results, Try.results33, go_sem, cer]) rfl ?_
      refine NetDoneS.mk HE.out rfl rfl (Os1.out.chg (a := (w.heap.size + 1 + 1)) (b := (w.heap.size + 1 + 1) + 1) (by (repeat (first | with_reducible refine Chg.setCell ?_ (by first | exact Nat.le_refl _ | (simp; done) | (simp; omega)) (by first | (simp; done) | (simp; omega)) _ | with_reducible refine Chg.alloc ?_ _ | with_reducible refine Chg.drew ?_)); (with_reducible exact Chg.refl _ _ _)) (.inl (by omega))) (Chg.of_below ?_) (fun T _ _ q cs h => h.below ?_ h.lt)
      · (repeat (first | with_reducible refine Below.setCell ?_ (by first | exact Nat.le_refl _ | (simp; done) | (simp; omega)) _ | with_reducible refine Below.alloc ?_ (by first | exact Nat.le_refl _ | (simp; done) | (simp; omega)) _ | with_reducible refine Below.drew ?_)); (with_reducible exact B1.out)
      · (repeat (first | with_reducible refine Below.setCell ?_ (by first | exact Nat.le_refl _ | (simp; done) | (simp; omega)) _ | with_reducible refine Below.alloc ?_ (by first | exact Nat.le_refl _ | (simp; done) | (simp; omega)) _ | with_reducible refine Below.drew ?_)); (with_reducible exact B1.out)
    have G1 := Lib.hid g1
    have ha13 : 1 ≤ aa ∧ aa ≤ 3 := (inB_iff _ _ _).1 g1
    clear g1
    have cex := Xx1.out.cell
    have fzx := Xx1.out.frozen
    have lbx := Xx1.out.lt
    have cey := Xy1.out.cell
    have fzy := Xy1.out.frozen
    have lby := Xy1.out.lt
    have cer := Xr1.out.cell
    have fzr := Xr1.out.frozen
    have lbr := Xr1.out.lt
    go_wp2_with fail
    refine (l1In_b aa 1 3 true _ G1.out).mono ?_
    rintro e w' ⟨rfl, rfl⟩
    clear cex fzx
    clear cey fzy
    clear cer fzr
    clear lbx
    clear lby
    clear lbr
    obtain ⟨ha1, ha3⟩ := ha13
    obtain ⟨j, hj⟩ : ∃ j : Nat, aa = (j : Int) + 1 := ⟨(aa - 1).toNat, by omega⟩
    subst hj
    have hj3 : j < ln.length := by omega
    obtain ⟨b, off, s, An, nn, cn, l, hA, hb1, hpj, hrow, q0, q1, q2, q3, q4, q5, q6, q7, q8, q9⟩ := Os1.out.nodes.own.rd.at_ hj3
    subst hA
    obtain rfl : l.length = nn := hrow.1
    have hbw : b < w1.heap.size := by omega
    have HRJ1 := Lib.hid hrow
    have hnode : nodeN ln ((j : Int) + 1) = ⟨s, l⟩ := by
      unfold nodeN
      rw [show ((j : Int) + 1 - 1).toNat = j by omega, List.getD_eq_getElem?_getD, hpj]; rfl
    have HND := Lib.hid hnode
    have hlj : l.length ≤ 90 := (HN.out j _ hpj).1.len
    clear hpj hrow hnode
    obtain ⟨r, hr⟩ : ∃ r, r = callN lp ⟨s, l⟩ ⟨ak, (j : Int) + 1, ab, m⟩ := ⟨_, rfl⟩
    have HR := Lib.hid hr
    clear hr
    have cex := Xx1.out.cell
    have fzx := Xx1.out.frozen
    have lbx := Xx1.out.lt
    have cey := Xy1.out.cell
    have fzy := Xy1.out.frozen
    have lby := Xy1.out.lt
    have cer := Xr1.out.cell
    have fzr := Xr1.out.frozen
    have lbr := Xr1.out.lt
    go_upto_region 9 with fail
    obtain ⟨w2, hnw2⟩ : ∃ q, q = w1.alloc (.cells #[.int .i64 s.me, .int .i64 s.round, .int .i64 s.step, .int .i64 s.lv, .int .i64 s.lr, .int .i64 s.vv, .int .i64 s.vr, .int .i64 s.polka, .int .i64 s.dec, .slice An l.length cn] 79) := ⟨_, rfl⟩
    rw [← hnw2]
    have C : Chg 0 0 w1 w2 := by rw [hnw2]; exact (Chg.refl _ _ _).alloc _
    have huw2 : w1.heap.size + 1 ≤ w2.heap.size := by rw [hnw2]; simp
    have hvw2 : w2.heap.size ≤ w1.heap.size + 1 := by rw [hnw2]; simp
    have hblk : Blk w2 w1.heap.size 79 #[.int .i64 s.me, .int .i64 s.round, .int .i64 s.step, .int .i64 s.lv, .int .i64 s.lr, .int .i64 s.vv, .int .i64 s.vr, .int .i64 s.polka, .int .i64 s.dec, .slice An l.length cn] := by rw [hnw2]; exact heap_alloc_new w1 _
    clear hnw2
    clear cex fzx
    clear cey fzy
    clear cer fzr
    clear lbx
    clear lby
    clear lbr
    have hs2 := C.size
    have B2 : Hid (Below w.heap.size w w2) := Lib.hid (B1.out.trans (C.under (B := w.heap.size) (by omega) (by omega)))
    clear B1
    have Xx2 : Hid (Blk w2 w.heap.size 27 #[.slice (some ⟨b, off, none⟩) ln.length c, .slice P lp.length d]) := Lib.hid ((C.block _ Xx1.out.lt (by omega)).trans Xx1.out)
    clear Xx1
    have Xy2 : Hid (Blk w2 (w.heap.size + 1) 51 #[.int .i64 ak, .int .i64 ((j : Int) + 1), .int .i64 ab, .int .i64 m.k, .int .i64 m.r, .int .i64 m.v, .int .i64 m.p, .int .i64 m.f]) := Lib.hid ((C.block _ Xy1.out.lt (by omega)).trans Xy1.out)
    clear Xy1
    have Xr2 : Hid (Blk w2 (w.heap.size + 1 + 1) 27 #[.slice none 0 0, .slice none 0 0]) := Lib.hid ((C.block _ Xr1.out.lt (by omega)).trans Xr1.out)
    clear Xr1
    have Os2 := Lib.hid (Os1.out.chg C (by omega))
    clear Os1
    have Xn2 := Lib.hid hblk
    clear hblk C
    clear q0 q1 q2 q3 q4 q5 q6 q7 q8 q9
    have cey := Xy2.out.cell
    have fzy := Xy2.out.frozen
    have lby := Xy2.out.lt
    go_upto_block 0 with fail
    obtain ⟨w5, hw5⟩ : ∃ q, q = w2.alloc (.cells #[] 49) := ⟨_, rfl⟩
    rw [← hw5]
    have C : Chg 0 0 w2 w5 := by rw [hw5]; exact (Chg.refl _ _ _).alloc _
    clear hw5
    clear cey fzy
    clear lby
    have hs3 := C.size
    have B3 : Hid (Below w.heap.size w w5) := Lib.hid (B2.out.trans (C.under (B := w.heap.size) (by omega) (by omega)))
    clear B2
    have Xx3 : Hid (Blk w5 w.heap.size 27 #[.slice (some ⟨b, off, none⟩) ln.length c, .slice P lp.length d]) := Lib.hid ((C.block _ Xx2.out.lt (by omega)).trans Xx2.out)
    clear Xx2
    have Xy3 : Hid (Blk w5 (w.heap.size + 1) 51 #[.int .i64 ak, .int .i64 ((j : Int) + 1), .int .i64 ab, .int .i64 m.k, .int .i64 m.r, .int .i64 m.v, .int .i64 m.p, .int .i64 m.f]) := Lib.hid ((C.block _ Xy2.out.lt (by omega)).trans Xy2.out)
    clear Xy2
    have Xr3 : Hid (Blk w5 (w.heap.size + 1 + 1) 27 #[.slice none 0 0, .slice none 0 0]) := Lib.hid ((C.block _ Xr2.out.lt (by omega)).trans Xr2.out)
    clear Xr2
    have Xn3 : Hid (Blk w5 w1.heap.size 79 #[.int .i64 s.me, .int .i64 s.round, .int .i64 s.step, .int .i64 s.lv, .int .i64 s.lr, .int .i64 s.vv, .int .i64 s.vr, .int .i64 s.polka, .int .i64 s.dec, .slice An l.length cn]) := Lib.hid ((C.block _ Xn2.out.lt (by omega)).trans Xn2.out)
    clear Xn2
    have Os3 := Lib.hid (Os2.out.chg C (by omega))
    clear Os2
    clear C
    have HQ5 : Hid (RdL msgC 5 w5 hi An l.length cn l) := Lib.hid (HRJ1.out.keep fun b o hb => ((B3.out.cell (p := ⟨b, o, none⟩) (by show b < w.heap.size; omega)).trans ((HBW1.out.cell (p := ⟨b, o, none⟩) (by show b < w.heap.size; omega)).symm)))
    have HRJ5 : Hid (RdL msgC 5 w5 w5.heap.size An l.length cn l) := Lib.hid (HQ5.out.more (by omega))
    go_cut [7, 8] (fun s8 s9 wx => s9 = .bool r.2 ∧ actBad lp ⟨ak, (j : Int) + 1, ab, m⟩ = false ∧ (r.2 = true → ∃ A7 c7 B7 d7, s8 = .slice B7 r.1.o.length d7 ∧ Blk wx w1.heap.size 79 #[.int .i64 r.1.s.me, .int .i64 r.1.s.round, .int .i64 r.1.s.step, .int .i64 r.1.s.lv, .int .i64 r.1.s.lr, .int .i64 r.1.s.vv, .int .i64 r.1.s.vr, .int .i64 r.1.s.polka, .int .i64 r.1.s.dec, .slice A7 r.1.l.length c7] ∧ OwnL msgC 5 49 wx w5.heap.size wx.heap.size A7 r.1.l.length c7 r.1.l ∧ OwnL msgC 5 49 wx w5.heap.size wx.heap.size B7 r.1.o.length d7 r.1.o) ∧ Chg w1.heap.size (w1.heap.size + 1) w5 wx)
    case first =>
      cases e1 : (ak == 1)
      · cases e2 : (ak == 2)
        · have hbad : actBad lp ⟨ak, (j : Int) + 1, ab, m⟩ = false := by have g1 := G1.out; simp [actBad, g1, e2]
          have HBD := Lib.hid hbad
          clear hbad
          cases e3 : (ak == 3)
          · have hr2 : r.2 = false := by rw [HR.out]; simp [callN, e1, e2, e3]
            have HR2 := Lib.hid hr2
            clear hr2
            have cey := Xy3.out.cell
            have fzy := Xy3.out.frozen
            have lby := Xy3.out.lt
            have cen := Xn3.out.cell
            have fzn := Xn3.out.frozen
            have lbn := Xn3.out.lt
            go_wp2_with fail
            go_meet
            refine ⟨by first | (rw [HR2.out]; done) | (simp [HR2.out]; done), HBD.out, ?_, Chg.refl _ _ _⟩
            first | trivial | (intro h; rw [HR2.out] at h; cases h)
          · have HRG : Hid (timeN s l ab = r) := Lib.hid (by rw [HR.out]; simp [callN, e1, e2, e3])
            have cey := Xy3.out.cell
            have fzy := Xy3.out.frozen
            have lby := Xy3.out.lt
            have cen := Xn3.out.cell
            have fzn := Xn3.out.frozen
            have lbn := Xn3.out.lt
            go_wp2_with fail
            refine (sNodeTime_any s An cn l ab _ HRJ5.out).mono ?_
            rintro e w6 ⟨A7, c7, B7, d7, he, hrr, hkk⟩
            rw [HRG.out] at he hrr
            subst he
            have hb6 := hkk.below fun q h => h
            have hs6 := hkk.size
            have HN6 : Hid (Blk w6 w1.heap.size 79 #[.int .i64 s.me, .int .i64 s.round, .int .i64 s.step, .int .i64 s.lv, .int .i64 s.lr, .int .i64 s.vv, .int .i64 s.vr, .int .i64 s.polka, .int .i64 s.dec, .slice An l.length cn]) := Lib.hid (Xn3.out.below hb6 Xn3.out.lt)
            have H7 := Lib.hid (hrr.msgs hs6)
            have H8 := Lib.hid (hrr.sent hs6)
            have HB6 := Lib.hid hb6
            clear hkk hrr hb6
            clear cey fzy
            clear cen fzn
            clear lby
            clear lbn
            have cen := HN6.out.cell
            have fzn := HN6.out.frozen
            have lbn := HN6.out.lt
            go_wp2_with fail
            go_meet
            have D := fill10_chg w6 w1.heap.size (.int .i64 r.1.s.me) (.int .i64 r.1.s.round) (.int .i64 r.1.s.step) (.int .i64 r.1.s.lv) (.int .i64 r.1.s.lr) (.int .i64 r.1.s.vv) (.int .i64 r.1.s.vr) (.int .i64 r.1.s.polka) (.int .i64 r.1.s.dec) (.slice A7 r.1.l.length c7)
            exact ⟨rfl, HBD.out, fun _ => ⟨A7, c7, B7, d7, rfl, HN6.out.fill10, (H7.out.chg D (.inr (by omega))).wide (Nat.le_refl _) D.size, (H8.out.chg D (.inr (by omega))).wide (Nat.le_refl _) D.size⟩, (Chg.of_below HB6.out).trans D⟩
        · by_cases hneg : ab < 0
          · skip
            have hbad : actBad lp ⟨ak, (j : Int) + 1, ab, m⟩ = true := by
              have h : inB ab 0 ((lp.length : Int) - 1) = false := by rw [Bool.eq_false_iff, ne_eq, inB_iff]; omega
              simp [actBad, e2, h]
            have HBD := Lib.hid hbad
            clear hbad
            have cex := Xx3.out.cell
            have fzx := Xx3.out.frozen
            have lbx := Xx3.out.lt
            have cer := Xr3.out.cell
            have fzr := Xr3.out.frozen
            have lbr := Xr3.out.lt
            have cey := Xy3.out.cell
            have fzy := Xy3.out.frozen
            have lby := Xy3.out.lt
            have HE : Hid (netDoN ln lp ⟨ak, (j : Int) + 1, ab, m⟩ = (ln, lp, false)) := Lib.hid (by have h := HBD.out; unfold netDoN; simp [hk4, h])
            go_wp2_with fail
            refine bodyPost_ret (v := .tuple #[.agg #[.slice (some ⟨b, off, none⟩) ln.length c, .slice P lp.length d], .bool false]) (by simp [results, Try.results33, go_sem, cer]) rfl ?_
            refine NetDoneS.mk HE.out rfl rfl (Os3.out.chg (a := (w.heap.size + 1 + 1)) (b := (w.heap.size + 1 + 1) + 1) (by (repeat (first | with_reducible refine Chg.setCell ?_ (by first | exact Nat.le_refl _ | (simp; done) | (simp; omega)) (by first | (simp; done) | (simp; omega)) _ | with_reducible refine Chg.alloc ?_ _ | with_reducible refine Chg.drew ?_)); (with_reducible exact Chg.refl _ _ _)) (.inl (by omega))) (Chg.of_below ?_) (fun T _ _ q cs h => h.below ?_ h.lt)
            · (repeat (first | with_reducible refine Below.setCell ?_ (by first | exact Nat.le_refl _ | (simp; done) | (simp; omega)) _ | with_reducible refine Below.alloc ?_ (by first | exact Nat.le_refl _ | (simp; done) | (simp; omega)) _ | with_reducible refine Below.drew ?_)); (with_reducible exact B3.out)
            · (repeat (first | with_reducible refine Below.setCell ?_ (by first | exact Nat.le_refl _ | (simp; done) | (simp; omega)) _ | with_reducible refine Below.alloc ?_ (by first | exact Nat.le_refl _ | (simp; done) | (simp; omega)) _ | with_reducible refine Below.drew ?_)); (with_reducible exact B3.out)
          by_cases hge : (lp.length : Int) ≤ ab
          · skip
            have hbad : actBad lp ⟨ak, (j : Int) + 1, ab, m⟩ = true := by
              have h : inB ab 0 ((lp.length : Int) - 1) = false := by rw [Bool.eq_false_iff, ne_eq, inB_iff]; omega
              simp [actBad, e2, h]
            have HBD := Lib.hid hbad
            clear hbad
            have cex := Xx3.out.cell
            have fzx := Xx3.out.frozen
            have lbx := Xx3.out.lt
            have cer := Xr3.out.cell
            have fzr := Xr3.out.frozen
            have lbr := Xr3.out.lt
            have cey := Xy3.out.cell
            have fzy := Xy3.out.frozen
            have lby := Xy3.out.lt
            have HE : Hid (netDoN ln lp ⟨ak, (j : Int) + 1, ab, m⟩ = (ln, lp, false)) := Lib.hid (by have h := HBD.out; unfold netDoN; simp [hk4, h])
            go_wp2_with fail
            refine bodyPost_ret (v := .tuple #[.agg #[.slice (some ⟨b, off, none⟩) ln.length c, .slice P lp.length d], .bool false]) (by simp [results, Try.results33, go_sem, cer]) rfl ?_
            refine NetDoneS.mk HE.out rfl rfl (Os3.out.chg (a := (w.heap.size + 1 + 1)) (b := (w.heap.size + 1 + 1) + 1) (by (repeat (first | with_reducible refine Chg.setCell ?_ (by first | exact Nat.le_refl _ | (simp; done) | (simp; omega)) (by first | (simp; done) | (simp; omega)) _ | with_reducible refine Chg.alloc ?_ _ | with_reducible refine Chg.drew ?_)); (with_reducible exact Chg.refl _ _ _)) (.inl (by omega))) (Chg.of_below ?_) (fun T _ _ q cs h => h.below ?_ h.lt)
            · (repeat (first | with_reducible refine Below.setCell ?_ (by first | exact Nat.le_refl _ | (simp; done) | (simp; omega)) _ | with_reducible refine Below.alloc ?_ (by first | exact Nat.le_refl _ | (simp; done) | (simp; omega)) _ | with_reducible refine Below.drew ?_)); (with_reducible exact B3.out)
            · (repeat (first | with_reducible refine Below.setCell ?_ (by first | exact Nat.le_refl _ | (simp; done) | (simp; omega)) _ | with_reducible refine Below.alloc ?_ (by first | exact Nat.le_refl _ | (simp; done) | (simp; omega)) _ | with_reducible refine Below.drew ?_)); (with_reducible exact B3.out)
          obtain ⟨i, hi5⟩ : ∃ i : Nat, ab = (i : Int) := ⟨ab.toNat, by omega⟩
          subst hi5
          have hip : i < lp.length := by omega
          have hbad : actBad lp ⟨ak, (j : Int) + 1, (i : Int), m⟩ = false := by
            have h : inB (i : Int) 0 ((lp.length : Int) - 1) = true := by rw [inB_iff]; omega
            have g1 := G1.out
            simp [actBad, g1, e2, h]
          have HBD := Lib.hid hbad
          clear hbad
          obtain ⟨pb, po, p, hPe, hpb', hpp, pk0, pk1, pk2, pk3, pk4⟩ := msg_cells (Os3.out.pool.rd msgC_len) hip
          subst hPe
          have hpb : pb < w5.heap.size := by omega
          have HRG : Hid (getN s l p = r) := Lib.hid (by
            have hg : lp.getD i zeroM = p := by rw [List.getD_eq_getElem?_getD, hpp]; rfl
            rw [HR.out]
            simp only [callN, e1, e2, if_true, Bool.false_eq_true, if_false, Int.toNat_natCast]
            rw [hg])
          clear hpp
          have cey := Xy3.out.cell
          have fzy := Xy3.out.frozen
          have lby := Xy3.out.lt
          have cex := Xx3.out.cell
          have fzx := Xx3.out.frozen
          have lbx := Xx3.out.lt
          go_upto_region 17 with fail
          refine wp_region_seq [0, 1, 2, 3, 4, 5, 6, 7, 8, 9, 10, 11, 12, 13] (fun S wx => Chg w1.heap.size (w1.heap.size + 1) w5 wx ∧ (12 ∈ S ∨ Blk wx w1.heap.size 79 #[.int .i64 s.me, .int .i64 s.round, .int .i64 s.step, .int .i64 s.lv, .int .i64 s.lr, .int .i64 s.vv, .int .i64 s.vr, .int .i64 s.polka, .int .i64 s.dec, .slice An l.length cn])) (fun j wa wb => match j with | 12 => BoxTurn 79 wa wb | _ => Below wa.heap.size wa wb) (fun ii b wx => match ii with
            | 0 => b.tmps.getD 84 undef = .agg #[.int .i64 s.me, .int .i64 s.round, .int .i64 s.step, .int .i64 s.lv, .int .i64 s.lr, .int .i64 s.vv, .int .i64 s.vr, .int .i64 s.polka, .int .i64 s.dec, .slice An l.length cn]
            | 1 => b.tmps.getD 85 undef = .pointer (some ⟨w.heap.size, 1, none⟩)
            | 2 => b.tmps.getD 86 undef = .slice (some ⟨pb, po, none⟩) lp.length d
            | 3 => b.tmps.getD 87 undef = .pointer (some ⟨(w.heap.size + 1), 2, none⟩)
            | 4 => b.tmps.getD 88 undef = .int .i64 (i : Int)
            | 5 => b.tmps.getD 89 undef = .pointer (some ⟨pb, po + i * 5, none⟩)
            | 6 => b.tmps.getD 90 undef = .agg #[.int .i64 p.k, .int .i64 p.r, .int .i64 p.v, .int .i64 p.p, .int .i64 p.f]
            | 7 => ∃ (A1 : Option Addr) (c1 : Nat) (B1 : Option Addr) (d1 : Nat), b.tmps.getD 91 undef = .tuple #[.agg #[.int .i64 r.1.s.me, .int .i64 r.1.s.round, .int .i64 r.1.s.step, .int .i64 r.1.s.lv, .int .i64 r.1.s.lr, .int .i64 r.1.s.vv, .int .i64 r.1.s.vr, .int .i64 r.1.s.polka, .int .i64 r.1.s.dec, .slice A1 r.1.l.length c1], .slice B1 r.1.o.length d1, .bool r.2] ∧ Rows wx (fun q => q < w5.heap.size) A1 c1 B1 d1 r.1
            | 8 => ∃ (A1 : Option Addr) (c1 : Nat) (B1 : Option Addr) (d1 : Nat), b.tmps.getD 83 undef = .tuple #[.agg #[.int .i64 r.1.s.me, .int .i64 r.1.s.round, .int .i64 r.1.s.step, .int .i64 r.1.s.lv, .int .i64 r.1.s.lr, .int .i64 r.1.s.vv, .int .i64 r.1.s.vr, .int .i64 r.1.s.polka, .int .i64 r.1.s.dec, .slice A1 r.1.l.length c1], .slice B1 r.1.o.length d1, .bool r.2] ∧ Rows wx (fun q => q < w5.heap.size) A1 c1 B1 d1 r.1
            | 9 => ∃ (A1 : Option Addr) (c1 : Nat), b.tmps.getD 92 undef = .agg #[.int .i64 r.1.s.me, .int .i64 r.1.s.round, .int .i64 r.1.s.step, .int .i64 r.1.s.lv, .int .i64 r.1.s.lr, .int .i64 r.1.s.vv, .int .i64 r.1.s.vr, .int .i64 r.1.s.polka, .int .i64 r.1.s.dec, .slice A1 r.1.l.length c1] ∧ OwnL msgC 5 49 wx w5.heap.size wx.heap.size A1 r.1.l.length c1 r.1.l
            | 10 => ∃ (B1 : Option Addr) (d1 : Nat), b.tmps.getD 93 undef = .slice B1 r.1.o.length d1 ∧ OwnL msgC 5 49 wx w5.heap.size wx.heap.size B1 r.1.o.length d1 r.1.o
            | 11 => b.tmps.getD 94 undef = .bool r.2
            | 12 => ∃ (A1 : Option Addr) (c1 : Nat), Blk wx w1.heap.size 79 #[.int .i64 r.1.s.me, .int .i64 r.1.s.round, .int .i64 r.1.s.step, .int .i64 r.1.s.lv, .int .i64 r.1.s.lr, .int .i64 r.1.s.vv, .int .i64 r.1.s.vr, .int .i64 r.1.s.polka, .int .i64 r.1.s.dec, .slice A1 r.1.l.length c1] ∧ OwnL msgC 5 49 wx w5.heap.size wx.heap.size A1 r.1.l.length c1 r.1.l
            | 13 => ∃ (B1 : Option Addr) (d1 : Nat), b.tmps.getD 7 undef = .slice B1 r.1.o.length d1 ∧ OwnL msgC 5 49 wx w5.heap.size wx.heap.size B1 r.1.o.length d1 r.1.o
            | _ => True) (by kernel_rfl) (coreB2_ok (by kernel_rfl)) ⟨(Chg.refl _ _ _).drew, .inr (show Blk _ _ _ _ from Xn3.out.drew)⟩ ?_ ?_ ?_
          · intro b wa wb i7 j7 oj v hi hj hij hoj hdep hE h
            simp only [List.mem_cons, List.not_mem_nil, or_false] at hi hj
            rcases hj with rfl | rfl | rfl | rfl | rfl | rfl | rfl | rfl | rfl | rfl | rfl | rfl | rfl | rfl
            all_goals obtain rfl := Option.some.inj hoj
            · rcases hi with rfl | rfl | rfl | rfl | rfl | rfl | rfl | rfl | rfl | rfl | rfl | rfl | rfl | rfl
              all_goals first | exact absurd rfl hij | exact trivial | (simp only at hE h ⊢; (first | exact trivial | exact getk' h (by decide) | (obtain ⟨A1, c1, B1, d1, e, h⟩ := h; exact ⟨A1, c1, B1, d1, getk' e (by decide), h.below hE⟩) | (obtain ⟨A1, c1, e, h⟩ := h; exact ⟨A1, c1, getk' e (by decide), (h.below hE (Nat.le_refl _)).wide (Nat.le_refl _) hE.size⟩) | (obtain ⟨A1, c1, h3, h⟩ := h; exact ⟨A1, c1, h3.below hE h3.lt, (h.below hE (Nat.le_refl _)).wide (Nat.le_refl _) hE.size⟩))) | exact absurd rfl (hdep _ rfl ⟨0, .data⟩ (by simp) rfl)
            · rcases hi with rfl | rfl | rfl | rfl | rfl | rfl | rfl | rfl | rfl | rfl | rfl | rfl | rfl | rfl
              all_goals first | exact absurd rfl hij | exact trivial | (simp only at hE h ⊢; (first | exact trivial | exact getk' h (by decide) | (obtain ⟨A1, c1, B1, d1, e, h⟩ := h; exact ⟨A1, c1, B1, d1, getk' e (by decide), h.below hE⟩) | (obtain ⟨A1, c1, e, h⟩ := h; exact ⟨A1, c1, getk' e (by decide), (h.below hE (Nat.le_refl _)).wide (Nat.le_refl _) hE.size⟩) | (obtain ⟨A1, c1, h3, h⟩ := h; exact ⟨A1, c1, h3.below hE h3.lt, (h.below hE (Nat.le_refl _)).wide (Nat.le_refl _) hE.size⟩))) | exact absurd rfl (hdep _ rfl ⟨1, .data⟩ (by simp) rfl)
            · rcases hi with rfl | rfl | rfl | rfl | rfl | rfl | rfl | rfl | rfl | rfl | rfl | rfl | rfl | rfl
              all_goals first | exact absurd rfl hij | exact trivial | (simp only at hE h ⊢; (first | exact trivial | exact getk' h (by decide) | (obtain ⟨A1, c1, B1, d1, e, h⟩ := h; exact ⟨A1, c1, B1, d1, getk' e (by decide), h.below hE⟩) | (obtain ⟨A1, c1, e, h⟩ := h; exact ⟨A1, c1, getk' e (by decide), (h.below hE (Nat.le_refl _)).wide (Nat.le_refl _) hE.size⟩) | (obtain ⟨A1, c1, h3, h⟩ := h; exact ⟨A1, c1, h3.below hE h3.lt, (h.below hE (Nat.le_refl _)).wide (Nat.le_refl _) hE.size⟩))) | exact absurd rfl (hdep _ rfl ⟨2, .data⟩ (by simp) rfl)
            · rcases hi with rfl | rfl | rfl | rfl | rfl | rfl | rfl | rfl | rfl | rfl | rfl | rfl | rfl | rfl
              all_goals first | exact absurd rfl hij | exact trivial | (simp only at hE h ⊢; (first | exact trivial | exact getk' h (by decide) | (obtain ⟨A1, c1, B1, d1, e, h⟩ := h; exact ⟨A1, c1, B1, d1, getk' e (by decide), h.below hE⟩) | (obtain ⟨A1, c1, e, h⟩ := h; exact ⟨A1, c1, getk' e (by decide), (h.below hE (Nat.le_refl _)).wide (Nat.le_refl _) hE.size⟩) | (obtain ⟨A1, c1, h3, h⟩ := h; exact ⟨A1, c1, h3.below hE h3.lt, (h.below hE (Nat.le_refl _)).wide (Nat.le_refl _) hE.size⟩))) | exact absurd rfl (hdep _ rfl ⟨3, .data⟩ (by simp) rfl)
            · rcases hi with rfl | rfl | rfl | rfl | rfl | rfl | rfl | rfl | rfl | rfl | rfl | rfl | rfl | rfl
              all_goals first | exact absurd rfl hij | exact trivial | (simp only at hE h ⊢; (first | exact trivial | exact getk' h (by decide) | (obtain ⟨A1, c1, B1, d1, e, h⟩ := h; exact ⟨A1, c1, B1, d1, getk' e (by decide), h.below hE⟩) | (obtain ⟨A1, c1, e, h⟩ := h; exact ⟨A1, c1, getk' e (by decide), (h.below hE (Nat.le_refl _)).wide (Nat.le_refl _) hE.size⟩) | (obtain ⟨A1, c1, h3, h⟩ := h; exact ⟨A1, c1, h3.below hE h3.lt, (h.below hE (Nat.le_refl _)).wide (Nat.le_refl _) hE.size⟩))) | exact absurd rfl (hdep _ rfl ⟨4, .data⟩ (by simp) rfl)
            · rcases hi with rfl | rfl | rfl | rfl | rfl | rfl | rfl | rfl | rfl | rfl | rfl | rfl | rfl | rfl
              all_goals first | exact absurd rfl hij | exact trivial | (simp only at hE h ⊢; (first | exact trivial | exact getk' h (by decide) | (obtain ⟨A1, c1, B1, d1, e, h⟩ := h; exact ⟨A1, c1, B1, d1, getk' e (by decide), h.below hE⟩) | (obtain ⟨A1, c1, e, h⟩ := h; exact ⟨A1, c1, getk' e (by decide), (h.below hE (Nat.le_refl _)).wide (Nat.le_refl _) hE.size⟩) | (obtain ⟨A1, c1, h3, h⟩ := h; exact ⟨A1, c1, h3.below hE h3.lt, (h.below hE (Nat.le_refl _)).wide (Nat.le_refl _) hE.size⟩))) | exact absurd rfl (hdep _ rfl ⟨5, .data⟩ (by simp) rfl)
            · rcases hi with rfl | rfl | rfl | rfl | rfl | rfl | rfl | rfl | rfl | rfl | rfl | rfl | rfl | rfl
              all_goals first | exact absurd rfl hij | exact trivial | (simp only at hE h ⊢; (first | exact trivial | exact getk' h (by decide) | (obtain ⟨A1, c1, B1, d1, e, h⟩ := h; exact ⟨A1, c1, B1, d1, getk' e (by decide), h.below hE⟩) | (obtain ⟨A1, c1, e, h⟩ := h; exact ⟨A1, c1, getk' e (by decide), (h.below hE (Nat.le_refl _)).wide (Nat.le_refl _) hE.size⟩) | (obtain ⟨A1, c1, h3, h⟩ := h; exact ⟨A1, c1, h3.below hE h3.lt, (h.below hE (Nat.le_refl _)).wide (Nat.le_refl _) hE.size⟩))) | exact absurd rfl (hdep _ rfl ⟨6, .data⟩ (by simp) rfl)
            · rcases hi with rfl | rfl | rfl | rfl | rfl | rfl | rfl | rfl | rfl | rfl | rfl | rfl | rfl | rfl
              all_goals first | exact absurd rfl hij | exact trivial | (simp only at hE h ⊢; (first | exact trivial | exact getk' h (by decide) | (obtain ⟨A1, c1, B1, d1, e, h⟩ := h; exact ⟨A1, c1, B1, d1, getk' e (by decide), h.below hE⟩) | (obtain ⟨A1, c1, e, h⟩ := h; exact ⟨A1, c1, getk' e (by decide), (h.below hE (Nat.le_refl _)).wide (Nat.le_refl _) hE.size⟩) | (obtain ⟨A1, c1, h3, h⟩ := h; exact ⟨A1, c1, h3.below hE h3.lt, (h.below hE (Nat.le_refl _)).wide (Nat.le_refl _) hE.size⟩))) | exact absurd rfl (hdep _ rfl ⟨7, .data⟩ (by simp) rfl)
            · rcases hi with rfl | rfl | rfl | rfl | rfl | rfl | rfl | rfl | rfl | rfl | rfl | rfl | rfl | rfl
              all_goals first | exact absurd rfl hij | exact trivial | (simp only at hE h ⊢; (first | exact trivial | exact getk' h (by decide) | (obtain ⟨A1, c1, B1, d1, e, h⟩ := h; exact ⟨A1, c1, B1, d1, getk' e (by decide), h.below hE⟩) | (obtain ⟨A1, c1, e, h⟩ := h; exact ⟨A1, c1, getk' e (by decide), (h.below hE (Nat.le_refl _)).wide (Nat.le_refl _) hE.size⟩) | (obtain ⟨A1, c1, h3, h⟩ := h; exact ⟨A1, c1, h3.below hE h3.lt, (h.below hE (Nat.le_refl _)).wide (Nat.le_refl _) hE.size⟩))) | exact absurd rfl (hdep _ rfl ⟨8, .data⟩ (by simp) rfl)
            · rcases hi with rfl | rfl | rfl | rfl | rfl | rfl | rfl | rfl | rfl | rfl | rfl | rfl | rfl | rfl
              all_goals first | exact absurd rfl hij | exact trivial | (simp only at hE h ⊢; (first | exact trivial | exact getk' h (by decide) | (obtain ⟨A1, c1, B1, d1, e, h⟩ := h; exact ⟨A1, c1, B1, d1, getk' e (by decide), h.below hE⟩) | (obtain ⟨A1, c1, e, h⟩ := h; exact ⟨A1, c1, getk' e (by decide), (h.below hE (Nat.le_refl _)).wide (Nat.le_refl _) hE.size⟩) | (obtain ⟨A1, c1, h3, h⟩ := h; exact ⟨A1, c1, h3.below hE h3.lt, (h.below hE (Nat.le_refl _)).wide (Nat.le_refl _) hE.size⟩))) | exact absurd rfl (hdep _ rfl ⟨9, .data⟩ (by simp) rfl)
            · rcases hi with rfl | rfl | rfl | rfl | rfl | rfl | rfl | rfl | rfl | rfl | rfl | rfl | rfl | rfl
              all_goals first | exact absurd rfl hij | exact trivial | (simp only at hE h ⊢; (first | exact trivial | exact getk' h (by decide) | (obtain ⟨A1, c1, B1, d1, e, h⟩ := h; exact ⟨A1, c1, B1, d1, getk' e (by decide), h.below hE⟩) | (obtain ⟨A1, c1, e, h⟩ := h; exact ⟨A1, c1, getk' e (by decide), (h.below hE (Nat.le_refl _)).wide (Nat.le_refl _) hE.size⟩) | (obtain ⟨A1, c1, h3, h⟩ := h; exact ⟨A1, c1, h3.below hE h3.lt, (h.below hE (Nat.le_refl _)).wide (Nat.le_refl _) hE.size⟩))) | exact absurd rfl (hdep _ rfl ⟨10, .data⟩ (by simp) rfl)
            · rcases hi with rfl | rfl | rfl | rfl | rfl | rfl | rfl | rfl | rfl | rfl | rfl | rfl | rfl | rfl
              all_goals first | exact absurd rfl hij | exact trivial | (simp only at hE h ⊢; (first | exact trivial | exact getk' h (by decide) | (obtain ⟨A1, c1, B1, d1, e, h⟩ := h; exact ⟨A1, c1, B1, d1, getk' e (by decide), h.below hE⟩) | (obtain ⟨A1, c1, e, h⟩ := h; exact ⟨A1, c1, getk' e (by decide), (h.below hE (Nat.le_refl _)).wide (Nat.le_refl _) hE.size⟩) | (obtain ⟨A1, c1, h3, h⟩ := h; exact ⟨A1, c1, h3.below hE h3.lt, (h.below hE (Nat.le_refl _)).wide (Nat.le_refl _) hE.size⟩))) | exact absurd rfl (hdep _ rfl ⟨11, .data⟩ (by simp) rfl)
            · rcases hi with rfl | rfl | rfl | rfl | rfl | rfl | rfl | rfl | rfl | rfl | rfl | rfl | rfl | rfl
              all_goals first | exact absurd rfl hij | exact trivial | (simp only at hE h ⊢; (first | exact trivial | exact getk' h (by decide) | (obtain ⟨A1, c1, B1, d1, e, h⟩ := h; exact ⟨A1, c1, B1, d1, getk' e (by decide), h.turn' hE⟩) | (obtain ⟨A1, c1, e, h⟩ := h; exact ⟨A1, c1, getk' e (by decide), hE.row (by decide) h⟩) | (obtain ⟨A1, c1, h3, h⟩ := h; exact ⟨A1, c1, h3, hE.row (by decide) h⟩))) | exact absurd rfl (hdep _ rfl ⟨12, .data⟩ (by simp) rfl)
            · rcases hi with rfl | rfl | rfl | rfl | rfl | rfl | rfl | rfl | rfl | rfl | rfl | rfl | rfl | rfl
              all_goals first | exact absurd rfl hij | exact trivial | (simp only at hE h ⊢; (first | exact trivial | exact getk' h (by decide) | (obtain ⟨A1, c1, B1, d1, e, h⟩ := h; exact ⟨A1, c1, B1, d1, getk' e (by decide), h.below hE⟩) | (obtain ⟨A1, c1, e, h⟩ := h; exact ⟨A1, c1, getk' e (by decide), (h.below hE (Nat.le_refl _)).wide (Nat.le_refl _) hE.size⟩) | (obtain ⟨A1, c1, h3, h⟩ := h; exact ⟨A1, c1, h3.below hE h3.lt, (h.below hE (Nat.le_refl _)).wide (Nat.le_refl _) hE.size⟩))) | exact absurd rfl (hdep _ rfl ⟨13, .data⟩ (by simp) rfl)
          · intro S j7 o hj hjS hcl ho a' w' hC hsame hdep
            have hz : w5.heap.size ≤ w'.heap.size := hC.1.size
            simp only [List.mem_cons, List.not_mem_nil, or_false] at hj
            rcases hj with rfl | rfl | rfl | rfl | rfl | rfl | rfl | rfl | rfl | rfl | rfl | rfl | rfl | rfl
            all_goals obtain rfl := Option.some.inj ho
            · have hs : a'.tmps.getD 6 undef = .pointer (some ⟨w1.heap.size, 0, none⟩) := hsame 6 (by rfl)
              have zb : Blk w' w1.heap.size 79 #[.int .i64 s.me, .int .i64 s.round, .int .i64 s.step, .int .i64 s.lv, .int .i64 s.lr, .int .i64 s.vv, .int .i64 s.vr, .int .i64 s.polka, .int .i64 s.dec, .slice An l.length cn] := hC.2.resolve_left fun h => hjS (hcl 12 _ h rfl ⟨0, .phase⟩ (by simp) rfl)
              have zz := zb.cell
              refine wp_val (w2 := w') (.agg #[.int .i64 s.me, .int .i64 s.round, .int .i64 s.step, .int .i64 s.lv, .int .i64 s.lr, .int .i64 s.vv, .int .i64 s.vr, .int .i64 s.polka, .int .i64 s.dec, .slice An l.length cn]) (fun K hK => ?_) ⟨_, rfl, ⟨hC.1, hC.2.imp (List.mem_cons_of_mem _) id⟩, Below.refl _ _, fun b hb hb2 => hb 84 rfl⟩
              clear hsame hdep zb
              unfold Oper.wp
              simp [execOp, Act.eval, go_sem, hs, zz]
              exact hK
            · have hs : a'.tmps.getD 2 undef = .pointer (some ⟨w.heap.size, 0, none⟩) := hsame 2 (by rfl)
              refine wp_val (w2 := w') (.pointer (some ⟨w.heap.size, 1, none⟩)) (fun K hK => ?_) ⟨_, rfl, ⟨hC.1, hC.2.imp (List.mem_cons_of_mem _) id⟩, Below.refl _ _, fun b hb hb2 => hb 85 rfl⟩
              clear hsame hdep
              unfold Oper.wp
              simp [execOp, Act.eval, go_sem, hs]
              exact hK
            · have e1 : a'.tmps.getD 85 undef = .pointer (some ⟨w.heap.size, 1, none⟩) := hdep ⟨1, .data⟩ (by simp) rfl
              have zz : ∀ o, w'.cell? ⟨w.heap.size, o, none⟩ = _ := fun o => (hC.1.cell (k := w.heap.size) lbx (by omega)).trans (cex o)
              refine wp_val (w2 := w') (.slice (some ⟨pb, po, none⟩) lp.length d) (fun K hK => ?_) ⟨_, rfl, ⟨hC.1, hC.2.imp (List.mem_cons_of_mem _) id⟩, Below.refl _ _, fun b hb hb2 => hb 86 rfl⟩
              clear hsame hdep
              unfold Oper.wp
              simp [execOp, Act.eval, go_sem, e1, zz]
              exact hK
            · have hs : a'.tmps.getD 3 undef = .pointer (some ⟨(w.heap.size + 1), 0, none⟩) := hsame 3 (by rfl)
              refine wp_val (w2 := w') (.pointer (some ⟨(w.heap.size + 1), 2, none⟩)) (fun K hK => ?_) ⟨_, rfl, ⟨hC.1, hC.2.imp (List.mem_cons_of_mem _) id⟩, Below.refl _ _, fun b hb hb2 => hb 87 rfl⟩
              clear hsame hdep
              unfold Oper.wp
              simp [execOp, Act.eval, go_sem, hs]
              exact hK
            · have e1 : a'.tmps.getD 87 undef = .pointer (some ⟨(w.heap.size + 1), 2, none⟩) := hdep ⟨3, .data⟩ (by simp) rfl
              have zz : ∀ o, w'.cell? ⟨(w.heap.size + 1), o, none⟩ = _ := fun o => (hC.1.cell (k := (w.heap.size + 1)) lby (by omega)).trans (cey o)
              refine wp_val (w2 := w') (.int .i64 (i : Int)) (fun K hK => ?_) ⟨_, rfl, ⟨hC.1, hC.2.imp (List.mem_cons_of_mem _) id⟩, Below.refl _ _, fun b hb hb2 => hb 88 rfl⟩
              clear hsame hdep
              unfold Oper.wp
              simp [execOp, Act.eval, go_sem, e1, zz]
              exact hK
            · have e1 : a'.tmps.getD 86 undef = .slice (some ⟨pb, po, none⟩) lp.length d := hdep ⟨2, .data⟩ (by simp) rfl
              have e2 : a'.tmps.getD 88 undef = .int .i64 (i : Int) := hdep ⟨4, .data⟩ (by simp) rfl
              refine wp_val (w2 := w') (.pointer (some ⟨pb, po + i * 5, none⟩)) (fun K hK => ?_) ⟨_, rfl, ⟨hC.1, hC.2.imp (List.mem_cons_of_mem _) id⟩, Below.refl _ _, fun b hb hb2 => hb 89 rfl⟩
              clear hsame hdep
              unfold Oper.wp
              simp [execOp, Act.eval, go_sem, e1, e2, hip]
              exact hK
            · have e1 : a'.tmps.getD 89 undef = .pointer (some ⟨pb, po + i * 5, none⟩) := hdep ⟨5, .data⟩ (by simp) rfl
              have k0 := (hC.1.cell (k := pb) hpb (by omega)).trans pk0
              have k1 := (hC.1.cell (k := pb) hpb (by omega)).trans pk1
              have k2 := (hC.1.cell (k := pb) hpb (by omega)).trans pk2
              have k3 := (hC.1.cell (k := pb) hpb (by omega)).trans pk3
              have k4 := (hC.1.cell (k := pb) hpb (by omega)).trans pk4
              refine wp_val (w2 := w') (.agg #[.int .i64 p.k, .int .i64 p.r, .int .i64 p.v, .int .i64 p.p, .int .i64 p.f]) (fun K hK => ?_) ⟨_, rfl, ⟨hC.1, hC.2.imp (List.mem_cons_of_mem _) id⟩, Below.refl _ _, fun b hb hb2 => hb 90 rfl⟩
              clear hsame hdep
              unfold Oper.wp
              simp [execOp, Act.eval, go_sem, e1, k0, k1, k2, k3, k4]
              exact hK
            · have e1 : a'.tmps.getD 84 undef = .agg #[.int .i64 s.me, .int .i64 s.round, .int .i64 s.step, .int .i64 s.lv, .int .i64 s.lr, .int .i64 s.vv, .int .i64 s.vr, .int .i64 s.polka, .int .i64 s.dec, .slice An l.length cn] := hdep ⟨0, .data⟩ (by simp) rfl
              have e2 : a'.tmps.getD 90 undef = .agg #[.int .i64 p.k, .int .i64 p.r, .int .i64 p.v, .int .i64 p.p, .int .i64 p.f] := hdep ⟨6, .data⟩ (by simp) rfl
              have hr : RdL msgC 5 w' w'.heap.size An l.length cn l := (HQ5.out.keep fun b o hb => hC.1.cell (by omega) (.inl (by omega))).more (by omega)
              refine wp_call (fun u wq => ∃ A1 c1 B1 d1, u = .tuple #[.agg #[.int .i64 r.1.s.me, .int .i64 r.1.s.round, .int .i64 r.1.s.step, .int .i64 r.1.s.lv, .int .i64 r.1.s.lr, .int .i64 r.1.s.vv, .int .i64 r.1.s.vr, .int .i64 r.1.s.polka, .int .i64 r.1.s.dec, .slice A1 r.1.l.length c1], .slice B1 r.1.o.length d1, .bool r.2] ∧ Rows wq (fun q => q < w5.heap.size) A1 c1 B1 d1 r.1 ∧ Below w'.heap.size w' wq) (fun K hK => ?_) ?_
              · clear hsame hdep
                unfold Oper.wp
                simp [Act.eval, e1, e2, go_sem]
                refine (sNodeGet_any s An cn l p _ hr).mono ?_
                rintro e w3' ⟨A7, c7, B7, d7, he, hrr, hkk⟩
                rw [HRG.out] at he hrr
                subst he
                exact hK _ _ ⟨A7, c7, B7, d7, rfl, hrr.mono fun q hq => Nat.lt_of_lt_of_le hq hz, hkk.below fun q hq => hq⟩
              · rintro u w3' ⟨A7, c7, B7, d7, rfl, hrr, hb3⟩
                refine ⟨_, rfl, ⟨hC.1.below_trans hb3, hC.2.imp (List.mem_cons_of_mem _) fun h => h.below hb3 h.lt⟩, hb3, fun b hb _ => ⟨A7, c7, B7, d7, hb 91 rfl, hrr⟩⟩
            · obtain ⟨A7, c7, B7, d7, e1, hrr⟩ := hdep ⟨7, .data⟩ (by simp) rfl
              refine wp_val (w2 := w') (.tuple #[.agg #[.int .i64 r.1.s.me, .int .i64 r.1.s.round, .int .i64 r.1.s.step, .int .i64 r.1.s.lv, .int .i64 r.1.s.lr, .int .i64 r.1.s.vv, .int .i64 r.1.s.vr, .int .i64 r.1.s.polka, .int .i64 r.1.s.dec, .slice A7 r.1.l.length c7], .slice B7 r.1.o.length d7, .bool r.2]) (fun K hK => ?_) ⟨_, rfl, ⟨hC.1, hC.2.imp (List.mem_cons_of_mem _) id⟩, Below.refl _ _, fun b hb hb2 => ⟨A7, c7, B7, d7, hb 83 rfl, hrr⟩⟩
              clear hsame hdep
              unfold Oper.wp
              simp [execOp, Act.eval, go_sem, e1]
              exact hK
            · obtain ⟨A7, c7, B7, d7, e1, hrr⟩ := hdep ⟨8, .data⟩ (by simp) rfl
              have hro := hrr.msgs hz
              refine wp_val (w2 := w') (.agg #[.int .i64 r.1.s.me, .int .i64 r.1.s.round, .int .i64 r.1.s.step, .int .i64 r.1.s.lv, .int .i64 r.1.s.lr, .int .i64 r.1.s.vv, .int .i64 r.1.s.vr, .int .i64 r.1.s.polka, .int .i64 r.1.s.dec, .slice A7 r.1.l.length c7]) (fun K hK => ?_) ⟨_, rfl, ⟨hC.1, hC.2.imp (List.mem_cons_of_mem _) id⟩, Below.refl _ _, fun b hb hb2 => ⟨A7, c7, hb 92 rfl, hro⟩⟩
              clear hsame hdep hro
              unfold Oper.wp
              simp [execOp, Act.eval, go_sem, e1]
              exact hK
            · obtain ⟨A7, c7, B7, d7, e1, hrr⟩ := hdep ⟨8, .data⟩ (by simp) rfl
              have hro := hrr.sent hz
              refine wp_val (w2 := w') (.slice B7 r.1.o.length d7) (fun K hK => ?_) ⟨_, rfl, ⟨hC.1, hC.2.imp (List.mem_cons_of_mem _) id⟩, Below.refl _ _, fun b hb hb2 => ⟨B7, d7, hb 93 rfl, hro⟩⟩
              clear hsame hdep hro
              unfold Oper.wp
              simp [execOp, Act.eval, go_sem, e1]
              exact hK
            · obtain ⟨A7, c7, B7, d7, e1, hrr⟩ := hdep ⟨8, .data⟩ (by simp) rfl
              refine wp_val (w2 := w') (.bool r.2) (fun K hK => ?_) ⟨_, rfl, ⟨hC.1, hC.2.imp (List.mem_cons_of_mem _) id⟩, Below.refl _ _, fun b hb hb2 => hb 94 rfl⟩
              clear hsame hdep
              unfold Oper.wp
              simp [execOp, Act.eval, go_sem, e1]
              exact hK
            · have hs : a'.tmps.getD 6 undef = .pointer (some ⟨w1.heap.size, 0, none⟩) := hsame 6 (by rfl)
              obtain ⟨A7, c7, e2, hro⟩ := hdep ⟨9, .data⟩ (by simp) rfl
              have zb : Blk w' w1.heap.size 79 #[.int .i64 s.me, .int .i64 s.round, .int .i64 s.step, .int .i64 s.lv, .int .i64 s.lr, .int .i64 s.vv, .int .i64 s.vr, .int .i64 s.polka, .int .i64 s.dec, .slice An l.length cn] := hC.2.resolve_left fun h => hjS h
              have zz := zb.cell
              have ff := zb.frozen
              obtain ⟨w9, hw9⟩ : ∃ z, z = ((((((((((w'.setCell ⟨w1.heap.size, 0, none⟩ (.int .i64 r.1.s.me)).setCell ⟨w1.heap.size, 1, none⟩ (.int .i64 r.1.s.round)).setCell ⟨w1.heap.size, 2, none⟩ (.int .i64 r.1.s.step)).setCell ⟨w1.heap.size, 3, none⟩ (.int .i64 r.1.s.lv)).setCell ⟨w1.heap.size, 4, none⟩ (.int .i64 r.1.s.lr)).setCell ⟨w1.heap.size, 5, none⟩ (.int .i64 r.1.s.vv)).setCell ⟨w1.heap.size, 6, none⟩ (.int .i64 r.1.s.vr)).setCell ⟨w1.heap.size, 7, none⟩ (.int .i64 r.1.s.polka)).setCell ⟨w1.heap.size, 8, none⟩ (.int .i64 r.1.s.dec)).setCell ⟨w1.heap.size, 9, none⟩ (.slice A7 r.1.l.length c7)) := ⟨_, rfl⟩
              have hchg : Chg w1.heap.size (w1.heap.size + 1) w' w9 := by rw [hw9]; exact fill10_chg _ _ _ _ _ _ _ _ _ _ _ _
              have hblk2 : Blk w9 w1.heap.size 79 #[.int .i64 r.1.s.me, .int .i64 r.1.s.round, .int .i64 r.1.s.step, .int .i64 r.1.s.lv, .int .i64 r.1.s.lr, .int .i64 r.1.s.vv, .int .i64 r.1.s.vr, .int .i64 r.1.s.polka, .int .i64 r.1.s.dec, .slice A7 r.1.l.length c7] := by rw [hw9]; exact zb.fill10
              have hturn := BoxTurn.of_blk zb hblk2 rfl hchg
              have hown := hturn.row (by decide) hro
              refine wp_val (w2 := w9) undef (fun K hK => ?_) ⟨_, rfl, ⟨hC.1.trans hchg, .inl (by simp)⟩, hturn, fun b _ hb => ⟨A7, c7, hblk2, hown⟩⟩
              rw [hw9] at hK
              clear hsame hdep hchg hblk2 hturn hown hw9 zb
              unfold Oper.wp
              simp [execOp, Act.eval, hs, e2, go_sem, zz, ff]
              exact hK
            · obtain ⟨B7, d7, e1, hro⟩ := hdep ⟨10, .data⟩ (by simp) rfl
              refine wp_val (w2 := w') (.slice B7 r.1.o.length d7) (fun K hK => ?_) ⟨_, rfl, ⟨hC.1, hC.2.imp (List.mem_cons_of_mem _) id⟩, Below.refl _ _, fun b hb hb2 => ⟨B7, d7, hb 7 rfl, hro⟩⟩
              clear hsame hdep
              unfold Oper.wp
              simp [execOp, Act.eval, go_sem, e1]
              exact hK
          · intro S a' w' _ hC ha hP
            obtain ⟨A7, c7, hbN, hoA⟩ := hP 12 (by simp)
            obtain ⟨B7, d7, e3, hoB⟩ := hP 13 (by simp)
            have e4 : a'.tmps.getD 94 undef = .bool r.2 := hP 11 (by simp)
            clear hP
            simp only [coreOps, List.filterMap_cons, List.filterMap_nil, List.getElem?_cons_zero, List.getElem?_cons_succ, fillA, slotOf, Act.put, e3, e4] at ha
            generalize a'.tmps.getD 84 undef = u84 at ha
            generalize a'.tmps.getD 85 undef = u85 at ha
            generalize a'.tmps.getD 86 undef = u86 at ha
            generalize a'.tmps.getD 87 undef = u87 at ha
            generalize a'.tmps.getD 88 undef = u88 at ha
            generalize a'.tmps.getD 89 undef = u89 at ha
            generalize a'.tmps.getD 90 undef = u90 at ha
            generalize a'.tmps.getD 91 undef = u91 at ha
            generalize a'.tmps.getD 83 undef = u83 at ha
            generalize a'.tmps.getD 92 undef = u92 at ha
            generalize a'.tmps.getD 93 undef = u93 at ha
            subst ha
            show wpAny _ _ _ _ 1 _ _ _
            refine wpAny_ready (rs := [14]) (by kernel_rfl) (by simp) ?_
            refine AllReady.cons rfl (fun K hK => ?_) AllReady.nil
            go_simp
            refine hK _ _ ?_
            clear hK K
            refine wpAny_done (by kernel_rfl) ?_ _
            go_wp2_with fail
            go_meet
            exact ⟨rfl, HBD.out, fun _ => ⟨A7, c7, B7, d7, rfl, hbN, hoA, hoB⟩, hC.1⟩
      · have HRG : Hid (startN s l = r) := Lib.hid (by rw [HR.out]; simp [callN, e1])
        have hbad : actBad lp ⟨ak, (j : Int) + 1, ab, m⟩ = false := by
          have g1 := G1.out
          have h1 : ak = 1 := by simpa using e1
          simp [actBad, g1, h1]
        have HBD := Lib.hid hbad
        clear hbad
        have cey := Xy3.out.cell
        have fzy := Xy3.out.frozen
        have lby := Xy3.out.lt
        have cen := Xn3.out.cell
        have fzn := Xn3.out.frozen
        have lbn := Xn3.out.lt
        go_wp2_with fail
        refine (sNodeStart_any s An cn l _ HRJ5.out).mono ?_
        rintro e w6 ⟨A7, c7, B7, d7, he, hrr, hkk⟩
        rw [HRG.out] at he hrr
        subst he
        have hb6 := hkk.below fun q h => h
        have hs6 := hkk.size
        have HN6 : Hid (Blk w6 w1.heap.size 79 #[.int .i64 s.me, .int .i64 s.round, .int .i64 s.step, .int .i64 s.lv, .int .i64 s.lr, .int .i64 s.vv, .int .i64 s.vr, .int .i64 s.polka, .int .i64 s.dec, .slice An l.length cn]) := Lib.hid (Xn3.out.below hb6 Xn3.out.lt)
        have H7 := Lib.hid (hrr.msgs hs6)
        have H8 := Lib.hid (hrr.sent hs6)
        have HB6 := Lib.hid hb6
        clear hkk hrr hb6
        clear cey fzy
        clear cen fzn
        clear lby
        clear lbn
        have cen := HN6.out.cell
        have fzn := HN6.out.frozen
        have lbn := HN6.out.lt
        go_wp2_with fail
        go_meet
        have D := fill10_chg w6 w1.heap.size (.int .i64 r.1.s.me) (.int .i64 r.1.s.round) (.int .i64 r.1.s.step) (.int .i64 r.1.s.lv) (.int .i64 r.1.s.lr) (.int .i64 r.1.s.vv) (.int .i64 r.1.s.vr) (.int .i64 r.1.s.polka) (.int .i64 r.1.s.dec) (.slice A7 r.1.l.length c7)
        exact ⟨rfl, HBD.out, fun _ => ⟨A7, c7, B7, d7, rfl, HN6.out.fill10, (H7.out.chg D (.inr (by omega))).wide (Nat.le_refl _) D.size, (H8.out.chg D (.inr (by omega))).wide (Nat.le_refl _) D.size⟩, (Chg.of_below HB6.out).trans D⟩
    case rest =>
    obtain ⟨rfl, hbad, hyes, C⟩ := hcut
    obtain ⟨w7, hw⟩ : ∃ q, q = wc := ⟨_, rfl⟩
    subst hw
    have HYES := Lib.hid hyes
    have HBAD := Lib.hid hbad
    clear hyes hbad HQ5 HRJ5 HRJ1 HBW1
    clear Xn3
    have hs4 := C.size
    have B4 : Hid (Below w.heap.size w w7) := Lib.hid (B3.out.trans (C.under (B := w.heap.size) (by omega) (by omega)))
    clear B3
    have Xx4 : Hid (Blk w7 w.heap.size 27 #[.slice (some ⟨b, off, none⟩) ln.length c, .slice P lp.length d]) := Lib.hid ((C.block _ Xx3.out.lt (by omega)).trans Xx3.out)
    clear Xx3
    have Xy4 : Hid (Blk w7 (w.heap.size + 1) 51 #[.int .i64 ak, .int .i64 ((j : Int) + 1), .int .i64 ab, .int .i64 m.k, .int .i64 m.r, .int .i64 m.v, .int .i64 m.p, .int .i64 m.f]) := Lib.hid ((C.block _ Xy3.out.lt (by omega)).trans Xy3.out)
    clear Xy3
    have Xr4 : Hid (Blk w7 (w.heap.size + 1 + 1) 27 #[.slice none 0 0, .slice none 0 0]) := Lib.hid ((C.block _ Xr3.out.lt (by omega)).trans Xr3.out)
    clear Xr3
    have Os4 := Lib.hid (Os3.out.chg C (by omega))
    clear Os3
    clear C
    obtain ⟨ok, hok⟩ : ∃ q, r.2 = q := ⟨_, rfl⟩
    rw [hok]
    have HOK := Lib.hid hok
    clear hok
    cases ok
    case false =>
      have cex := Xx4.out.cell
      have fzx := Xx4.out.frozen
      have lbx := Xx4.out.lt
      have cer := Xr4.out.cell
      have fzr := Xr4.out.frozen
      have lbr := Xr4.out.lt
      have cey := Xy4.out.cell
      have fzy := Xy4.out.frozen
      have lby := Xy4.out.lt
      have HE : Hid (netDoN ln lp ⟨ak, (j : Int) + 1, ab, m⟩ = (ln, lp, false)) := Lib.hid (by exact netDoN_no hk4 HBAD.out HND.out HR.out HOK.out)
      go_wp2_with fail
      refine bodyPost_ret (v := .tuple #[.agg #[.slice (some ⟨b, off, none⟩) ln.length c, .slice P lp.length d], .bool false]) (by simp [results, Try.results33, go_sem, cer]) rfl ?_
      refine NetDoneS.mk HE.out rfl rfl (Os4.out.chg (a := (w.heap.size + 1 + 1)) (b := (w.heap.size + 1 + 1) + 1) (by (repeat (first | with_reducible refine Chg.setCell ?_ (by first | exact Nat.le_refl _ | (simp; done) | (simp; omega)) (by first | (simp; done) | (simp; omega)) _ | with_reducible refine Chg.alloc ?_ _ | with_reducible refine Chg.drew ?_)); (with_reducible exact Chg.refl _ _ _)) (.inl (by omega))) (Chg.of_below ?_) (fun T _ _ q cs h => h.below ?_ h.lt)
      · (repeat (first | with_reducible refine Below.setCell ?_ (by first | exact Nat.le_refl _ | (simp; done) | (simp; omega)) _ | with_reducible refine Below.alloc ?_ (by first | exact Nat.le_refl _ | (simp; done) | (simp; omega)) _ | with_reducible refine Below.drew ?_)); (with_reducible exact B4.out)
      · (repeat (first | with_reducible refine Below.setCell ?_ (by first | exact Nat.le_refl _ | (simp; done) | (simp; omega)) _ | with_reducible refine Below.alloc ?_ (by first | exact Nat.le_refl _ | (simp; done) | (simp; omega)) _ | with_reducible refine Below.drew ?_)); (with_reducible exact B4.out)
    obtain ⟨Aq, cq, Bq, dq, rfl, hbN, ho7, ho8⟩ := HYES.out HOK.out
    have Xn4 := Lib.hid hbN
    have Ou4 := Lib.hid ho7
    have Ov4 := Lib.hid ho8
    clear hbN ho7 ho8 HYES
    obtain ⟨hl7, hl8⟩ := callN_len lp ⟨s, l⟩ ⟨ak, (j : Int) + 1, ab, m⟩ (by show l.length ≤ 2000; omega)
    rw [← HR.out] at hl7 hl8
    have cex := Xx4.out.cell
    have fzx := Xx4.out.frozen
    have lbx := Xx4.out.lt
    have cer := Xr4.out.cell
    have fzr := Xr4.out.frozen
    have lbr := Xr4.out.lt
    have cey := Xy4.out.cell
    have fzy := Xy4.out.frozen
    have lby := Xy4.out.lt
    go_wp2_with (at_builtin; refine wpList_app_rd _ rfl _ _ _ rfl w7.heap.size 49 i0 _ 5 40 Try.underlying25 hi0 hz0 hz1 hz2 rfl (by decide) (.slice (some ⟨w7.heap.size, 0, none⟩) 0 0) 0 [] rfl (by exact ⟨by simp, .inr ⟨w7.heap.size, 0, #[], rfl, Nat.le_refl _, heap_alloc_new w7 (.cells #[] 49), by simp, by decide, rfl, by simp⟩⟩) _ P lp.length d (lp.flatMap msgC) rfl (by exact (Os4.out.below ((Below.refl _ _).alloc (Nat.le_refl _) _)).rdp.2) (msgs_one lp) (by unfold maxLen; omega) (by omega) (by simp) ?_)
    intro v1 w8 hown hg hat
    clear hat
    (try simp only [Nat.zero_add, List.nil_append] at hown)
    obtain ⟨P9, d9, rfl, ho9⟩ := OwnL.of_own (l := lp) rfl hown
    have HP9 := Lib.hid ho9
    have B78 : Hid (Below w7.heap.size w7 w8) := Lib.hid (((Below.refl w7.heap.size w7).alloc (Nat.le_refl _) _).trans ((Below.refl w7.heap.size _).grown hg (by simp) (fun k hk => by cases hk; exact Nat.le_refl _)))
    have hs78 := B78.out.size
    have HV8 := Lib.hid ((Ov4.out.below B78.out (Nat.le_refl _)).rd msgC_len)
    clear hown hg ho9
    go_wp2_with fail
    refine (l17Pool_any P9 d9 lp Bq dq r.1.o w7.heap.size _ HP9.out HV8.out hs78 (by omega) (by omega)).mono ?_
    rintro e w9 ⟨P10, d10, rfl, hp10, hb⟩
    have C : Chg 0 0 w7 w9 := Chg.of_below (B78.out.trans hb)
    have HP10 := Lib.hid hp10
    clear hb hp10 HP9 HV8 B78 hs78
    clear cex fzx
    clear cer fzr
    clear cey fzy
    clear lbx
    clear lbr
    clear lby
    have hs5 := C.size
    have B5 : Hid (Below w.heap.size w w9) := Lib.hid (B4.out.trans (C.under (B := w.heap.size) (by omega) (by omega)))
    clear B4
    have Xx5 : Hid (Blk w9 w.heap.size 27 #[.slice (some ⟨b, off, none⟩) ln.length c, .slice P lp.length d]) := Lib.hid ((C.block _ Xx4.out.lt (by omega)).trans Xx4.out)
    clear Xx4
    have Xy5 : Hid (Blk w9 (w.heap.size + 1) 51 #[.int .i64 ak, .int .i64 ((j : Int) + 1), .int .i64 ab, .int .i64 m.k, .int .i64 m.r, .int .i64 m.v, .int .i64 m.p, .int .i64 m.f]) := Lib.hid ((C.block _ Xy4.out.lt (by omega)).trans Xy4.out)
    clear Xy4
    have Xr5 : Hid (Blk w9 (w.heap.size + 1 + 1) 27 #[.slice none 0 0, .slice none 0 0]) := Lib.hid ((C.block _ Xr4.out.lt (by omega)).trans Xr4.out)
    clear Xr4
    have Xn5 : Hid (Blk w9 w1.heap.size 79 #[.int .i64 r.1.s.me, .int .i64 r.1.s.round, .int .i64 r.1.s.step, .int .i64 r.1.s.lv, .int .i64 r.1.s.lr, .int .i64 r.1.s.vv, .int .i64 r.1.s.vr, .int .i64 r.1.s.polka, .int .i64 r.1.s.dec, .slice Aq r.1.l.length cq]) := Lib.hid ((C.block _ Xn4.out.lt (by omega)).trans Xn4.out)
    clear Xn4
    have Os5 := Lib.hid (Os4.out.chg C (by omega))
    clear Os4
    have Ou5 := Lib.hid (Ou4.out.chg C (by omega))
    clear Ou4
    have Ov5 := Lib.hid (Ov4.out.chg C (by omega))
    clear Ov4
    clear C
    have Op5 := HP10
    clear HP10
    by_cases hbig : 150 < (addAll lp r.1.o).length
    · have hbg : decide ((addAll lp r.1.o).length ≤ 150) = false := decide_eq_false (by omega)
      rw [hbg]
      have cex := Xx5.out.cell
      have fzx := Xx5.out.frozen
      have lbx := Xx5.out.lt
      have cer := Xr5.out.cell
      have fzr := Xr5.out.frozen
      have lbr := Xr5.out.lt
      have cey := Xy5.out.cell
      have fzy := Xy5.out.frozen
      have lby := Xy5.out.lt
      have HE : Hid (netDoN ln lp ⟨ak, (j : Int) + 1, ab, m⟩ = (ln, lp, false)) := Lib.hid (by exact netDoN_big hk4 HBAD.out HND.out HR.out HOK.out hbig)
      go_wp2_with fail
      refine bodyPost_ret (v := .tuple #[.agg #[.slice (some ⟨b, off, none⟩) ln.length c, .slice P lp.length d], .bool false]) (by simp [results, Try.results33, go_sem, cer]) rfl ?_
      refine NetDoneS.mk HE.out rfl rfl (Os5.out.chg (a := (w.heap.size + 1 + 1)) (b := (w.heap.size + 1 + 1) + 1) (by (repeat (first | with_reducible refine Chg.setCell ?_ (by first | exact Nat.le_refl _ | (simp; done) | (simp; omega)) (by first | (simp; done) | (simp; omega)) _ | with_reducible refine Chg.alloc ?_ _ | with_reducible refine Chg.drew ?_)); (with_reducible exact Chg.refl _ _ _)) (.inl (by omega))) (Chg.of_below ?_) (fun T _ _ q cs h => h.below ?_ h.lt)
      · (repeat (first | with_reducible refine Below.setCell ?_ (by first | exact Nat.le_refl _ | (simp; done) | (simp; omega)) _ | with_reducible refine Below.alloc ?_ (by first | exact Nat.le_refl _ | (simp; done) | (simp; omega)) _ | with_reducible refine Below.drew ?_)); (with_reducible exact B5.out)
      · (repeat (first | with_reducible refine Below.setCell ?_ (by first | exact Nat.le_refl _ | (simp; done) | (simp; omega)) _ | with_reducible refine Below.alloc ?_ (by first | exact Nat.le_refl _ | (simp; done) | (simp; omega)) _ | with_reducible refine Below.drew ?_)); (with_reducible exact B5.out)
    have hbg : decide ((addAll lp r.1.o).length ≤ 150) = true := decide_eq_true (by omega)
    rw [hbg]
    clear hbg
    have HE : Hid (netDoN ln lp ⟨ak, (j : Int) + 1, ab, m⟩ = (ln.set j ⟨r.1.s, r.1.l⟩, addAll lp r.1.o, true)) := Lib.hid (by
      have h := netDoN_yes hk4 HBAD.out HND.out HR.out HOK.out hbig
      rw [h]
      show (ln.set ((j : Int) + 1 - 1).toNat _, _, _) = _
      rw [show ((j : Int) + 1 - 1).toNat = j by omega])
    have hlq : (addAll lp r.1.o).length ≤ 150 := by omega
    clear hbig
    generalize addAll lp r.1.o = lq at *
    have cex := Xx5.out.cell
    have fzx := Xx5.out.frozen
    have lbx := Xx5.out.lt
    have cer := Xr5.out.cell
    have fzr := Xr5.out.frozen
    have lbr := Xr5.out.lt
    have cey := Xy5.out.cell
    have fzy := Xy5.out.frozen
    have lby := Xy5.out.lt
    go_upto_region 26 with fail
    clear cex fzx
    clear cer fzr
    clear cey fzy
    clear lbx
    clear lbr
    clear lby
    obtain ⟨w10, hw10⟩ : ∃ z, z = w9.setCell ⟨w.heap.size, 1, none⟩ (.slice P10 lq.length d10) := ⟨_, rfl⟩
    rw [← hw10]
    have C : Chg w.heap.size (w.heap.size + 1) w9 w10 := by rw [hw10]; exact Chg.setCell (p := ⟨w.heap.size, 1, none⟩) (Chg.refl _ _ w9) (Nat.le_refl _) (Nat.lt_succ_self _) _
    have hx10 : Blk w10 w.heap.size 27 #[.slice (some ⟨b, off, none⟩) ln.length c, .slice P10 lq.length d10] := by
      rw [hw10]
      have h := Xx5.out.set_ 1 (.slice P10 lq.length d10)
      simpa using h
    clear hw10
    clear Xx5
    have hs6 := C.size
    have B6 : Hid (Below w.heap.size w w10) := Lib.hid (B5.out.trans (C.under (B := w.heap.size) (by omega) (by omega)))
    clear B5
    have Xy6 : Hid (Blk w10 (w.heap.size + 1) 51 #[.int .i64 ak, .int .i64 ((j : Int) + 1), .int .i64 ab, .int .i64 m.k, .int .i64 m.r, .int .i64 m.v, .int .i64 m.p, .int .i64 m.f]) := Lib.hid ((C.block _ Xy5.out.lt (by omega)).trans Xy5.out)
    clear Xy5
    have Xr6 : Hid (Blk w10 (w.heap.size + 1 + 1) 27 #[.slice none 0 0, .slice none 0 0]) := Lib.hid ((C.block _ Xr5.out.lt (by omega)).trans Xr5.out)
    clear Xr5
    have Xn6 : Hid (Blk w10 w1.heap.size 79 #[.int .i64 r.1.s.me, .int .i64 r.1.s.round, .int .i64 r.1.s.step, .int .i64 r.1.s.lv, .int .i64 r.1.s.lr, .int .i64 r.1.s.vv, .int .i64 r.1.s.vr, .int .i64 r.1.s.polka, .int .i64 r.1.s.dec, .slice Aq r.1.l.length cq]) := Lib.hid ((C.block _ Xn5.out.lt (by omega)).trans Xn5.out)
    clear Xn5
    have Os6 := Lib.hid (Os5.out.chg C (by omega))
    clear Os5
    have Ou6 := Lib.hid (Ou5.out.chg C (by omega))
    clear Ou5
    have Ov6 := Lib.hid (Ov5.out.chg C (by omega))
    clear Ov5
    have Op6 := Lib.hid (Op5.out.chg C (by omega))
    clear Op5
    have Xx6 := Lib.hid hx10
    clear hx10 C
    have hnx : NodesX w10 lo hi (some ⟨b, off, none⟩) ln.length c ln (fun _ => False) := Os6.out.nodes.swap fun q _ _ h => h.elim
    obtain ⟨g, cur, hA2, hg1, hg2, hblk, hnc, hsz⟩ := hnx.open (by omega)
    simp only [Option.some.injEq, Addr.mk.injEq, and_true] at hA2
    obtain ⟨rfl, rfl⟩ := hA2
    have HNX := Lib.hid hnx
    have HBG := Lib.hid hblk
    have hj10 : j * 10 + 10 ≤ cur.size := by omega
    have q0 := hblk.has (j * 10) (by omega)
    have q1 := hblk.has (j * 10 + 1) (by omega)
    have q2 := hblk.has (j * 10 + 2) (by omega)
    have q3 := hblk.has (j * 10 + 3) (by omega)
    have q4 := hblk.has (j * 10 + 4) (by omega)
    have q5 := hblk.has (j * 10 + 5) (by omega)
    have q6 := hblk.has (j * 10 + 6) (by omega)
    have q7 := hblk.has (j * 10 + 7) (by omega)
    have q8 := hblk.has (j * 10 + 8) (by omega)
    have q9 := hblk.has (j * 10 + 9) (by omega)
    have qf := hblk.frozen
    have hgl := hblk.lt
    clear hnx hblk
    have cex := Xx6.out.cell
    have fzx := Xx6.out.frozen
    have lbx := Xx6.out.lt
    have cer := Xr6.out.cell
    have fzr := Xr6.out.frozen
    have lbr := Xr6.out.lt
    have cey := Xy6.out.cell
    have fzy := Xy6.out.frozen
    have lby := Xy6.out.lt
    have cen := Xn6.out.cell
    have fzn := Xn6.out.frozen
    have lbn := Xn6.out.lt
    go_upto_region 27 with fail
    clear cex fzx
    clear cer fzr
    clear cey fzy
    clear cen fzn
    clear lbx
    clear lbr
    clear lby
    clear lbn
    obtain ⟨w11, hw11⟩ : ∃ z, z = ((((((((((w10.setCell ⟨b, j * 10, none⟩ (.int .i64 r.1.s.me)).setCell ⟨b, j * 10 + 1, none⟩ (.int .i64 r.1.s.round)).setCell ⟨b, j * 10 + 2, none⟩ (.int .i64 r.1.s.step)).setCell ⟨b, j * 10 + 3, none⟩ (.int .i64 r.1.s.lv)).setCell ⟨b, j * 10 + 4, none⟩ (.int .i64 r.1.s.lr)).setCell ⟨b, j * 10 + 5, none⟩ (.int .i64 r.1.s.vv)).setCell ⟨b, j * 10 + 6, none⟩ (.int .i64 r.1.s.vr)).setCell ⟨b, j * 10 + 7, none⟩ (.int .i64 r.1.s.polka)).setCell ⟨b, j * 10 + 8, none⟩ (.int .i64 r.1.s.dec)).setCell ⟨b, j * 10 + 9, none⟩ (.slice Aq r.1.l.length cq)) := ⟨_, rfl⟩
    rw [← hw11]
    have C : Chg b (b + 1) w10 w11 := by rw [hw11]; (repeat (first | with_reducible refine Chg.setCell ?_ (by first | exact Nat.le_refl _ | (simp; done) | (simp; omega)) (by first | (simp; done) | (simp; omega)) _ | with_reducible refine Chg.alloc ?_ _ | with_reducible refine Chg.drew ?_)); (with_reducible exact Chg.refl _ _ _)
    have hb11 := ((((((((((HBG.out.set_ (j * 10) (.int .i64 r.1.s.me)).set_ (j * 10 + 1) (.int .i64 r.1.s.round)).set_ (j * 10 + 2) (.int .i64 r.1.s.step)).set_ (j * 10 + 3) (.int .i64 r.1.s.lv)).set_ (j * 10 + 4) (.int .i64 r.1.s.lr)).set_ (j * 10 + 5) (.int .i64 r.1.s.vv)).set_ (j * 10 + 6) (.int .i64 r.1.s.vr)).set_ (j * 10 + 7) (.int .i64 r.1.s.polka)).set_ (j * 10 + 8) (.int .i64 r.1.s.dec)).set_ (j * 10 + 9) (.slice Aq r.1.l.length cq))
    rw [← hw11] at hb11
    clear hw11
    have HN11 : Hid (NodesX w11 lo w7.heap.size (some ⟨b, 0, none⟩) ln.length c (ln.set j ⟨r.1.s, r.1.l⟩) (fun _ => False)) := Lib.hid (NodesX.put (lo2 := w5.heap.size) (s := r.1.s) (B := Aq) (m := r.1.l.length) (d := cq) (l := r.1.l) HNX.out HBG.out hj3 C hb11 (by simp)
      (fun i hi => by simp [Array.getElem?_setIfInBounds]; rw [if_neg (by omega)]; rw [if_neg (by omega)]; rw [if_neg (by omega)]; rw [if_neg (by omega)]; rw [if_neg (by omega)]; rw [if_neg (by omega)]; rw [if_neg (by omega)]; rw [if_neg (by omega)]; rw [if_neg (by omega)]; rw [if_neg (by omega)])
      (fun q hq => by rcases (by omega : q = 0 ∨ q = 1 ∨ q = 2 ∨ q = 3 ∨ q = 4 ∨ q = 5 ∨ q = 6 ∨ q = 7 ∨ q = 8 ∨ q = 9) with rfl | rfl | rfl | rfl | rfl | rfl | rfl | rfl | rfl | rfl <;> simp [Array.getElem?_setIfInBounds, nodeC] <;> omega)
      (Ou6.out.chg C (.inr (by omega))) (by omega) (by omega) (by omega) (fun q _ _ h => h))
    have HX11 := Lib.hid (show Blk w11 w.heap.size _ _ from (C.block _ Xx6.out.lt (by omega)).trans Xx6.out)
    have HR11 := Lib.hid (show Blk w11 (w.heap.size + 1 + 1) 27 #[.slice none 0 0, .slice none 0 0] from (C.block _ Xr6.out.lt (by omega)).trans Xr6.out)
    have HP11 := Lib.hid (Op6.out.chg C (.inr (by omega)))
    have hs11 := C.size
    have HBF : Hid (Chg lo hi w w11) := Lib.hid ((Chg.of_below B6.out).trans (C.wide hg1 (by omega)))
    have HTF : Hid (∀ T, T ≠ 79 → T ≠ 49 → ∀ q cs, Blk w q T cs → Blk w11 q T cs) := Lib.hid fun T hT1 _ q cs h => HBG.out.stay C hT1 (h.below B6.out h.lt)
    clear C hb11 q0 q1 q2 q3 q4 q5 q6 q7 q8 q9 qf hgl
    have cex := HX11.out.cell
    have lbx := HX11.out.lt
    have cer := HR11.out.cell
    have fzr := HR11.out.frozen
    have lbr := HR11.out.lt
    go_wp2_with fail
    refine bodyPost_ret (v := .tuple #[.agg #[.slice (some ⟨b, 0, none⟩) ln.length c, .slice P10 lq.length d10], .bool true]) (by simp [results, Try.results33, go_sem, cer]) rfl ?_
    refine NetDoneS.mk HE.out (by simp) rfl ((NetS.fresh (by have h := HN11.out; simpa using h) (by omega) HP11.out (Nat.le_refl _) (by omega) (by omega)).box HR11.out (by decide) (by decide) (by (repeat (first | with_reducible refine Chg.setCell ?_ (by first | exact Nat.le_refl _ | (simp; done) | (simp; omega)) (by first | (simp; done) | (simp; omega)) _ | with_reducible refine Chg.alloc ?_ _ | with_reducible refine Chg.drew ?_)); (with_reducible exact Chg.refl _ _ _))) (Chg.then_below HBF.out ?_) (fun T hT1 hT2 q cs h => (HTF.out T hT1 hT2 q cs h).below (B := w.heap.size) ?_ h.lt)
    · (repeat (first | with_reducible refine Below.setCell ?_ (by first | exact Nat.le_refl _ | (simp; done) | (simp; omega)) _ | with_reducible refine Below.alloc ?_ (by first | exact Nat.le_refl _ | (simp; done) | (simp; omega)) _ | with_reducible refine Below.drew ?_)); (with_reducible exact (Below.refl w.heap.size w11))
    · (repeat (first | with_reducible refine Below.setCell ?_ (by first | exact Nat.le_refl _ | (simp; done) | (simp; omega)) _ | with_reducible refine Below.alloc ?_ (by first | exact Nat.le_refl _ | (simp; done) | (simp; omega)) _ | with_reducible refine Below.drew ?_)); (with_reducible exact (Below.refl w.heap.size w11))
  · skip
    cases h1 : okMsg m
    · skip
      have H1 := Lib.hid h1
      have cex := Xx1.out.cell
      have fzx := Xx1.out.frozen
      have lbx := Xx1.out.lt
      have cey := Xy1.out.cell
      have fzy := Xy1.out.frozen
      have lby := Xy1.out.lt
      have cer := Xr1.out.cell
      have fzr := Xr1.out.frozen
      have lbr := Xr1.out.lt
      clear h1
      go_wp2_with fail
      refine (sMsgOk_b m false _ H1.out).mono ?_
      rintro e w2 ⟨rfl, hb⟩
      have C : Chg 0 0 w1 w2 := by exact Chg.of_below hb
      clear hb
      clear cex fzx
      clear cey fzy
      clear cer fzr
      clear lbx
      clear lby
      clear lbr
      have hs2 := C.size
      have B2 : Hid (Below w.heap.size w w2) := Lib.hid (B1.out.trans (C.under (B := w.heap.size) (by omega) (by omega)))
      clear B1
      have Xx2 : Hid (Blk w2 w.heap.size 27 #[.slice A ln.length c, .slice P lp.length d]) := Lib.hid ((C.block _ Xx1.out.lt (by omega)).trans Xx1.out)
      clear Xx1
      have Xy2 : Hid (Blk w2 (w.heap.size + 1) 51 #[.int .i64 ak, .int .i64 aa, .int .i64 ab, .int .i64 m.k, .int .i64 m.r, .int .i64 m.v, .int .i64 m.p, .int .i64 m.f]) := Lib.hid ((C.block _ Xy1.out.lt (by omega)).trans Xy1.out)
      clear Xy1
      have Xr2 : Hid (Blk w2 (w.heap.size + 1 + 1) 27 #[.slice none 0 0, .slice none 0 0]) := Lib.hid ((C.block _ Xr1.out.lt (by omega)).trans Xr1.out)
      clear Xr1
      have Os2 := Lib.hid (Os1.out.chg C (by omega))
      clear Os1
      clear C
      have cex := Xx2.out.cell
      have fzx := Xx2.out.frozen
      have lbx := Xx2.out.lt
      have cer := Xr2.out.cell
      have fzr := Xr2.out.frozen
      have lbr := Xr2.out.lt
      have cey := Xy2.out.cell
      have fzy := Xy2.out.frozen
      have lby := Xy2.out.lt
      have HE : Hid (netDoN ln lp ⟨ak, aa, ab, m⟩ = (ln, lp, false)) := Lib.hid (by have h1 := H1.out; unfold netDoN; simp [hk, lieBad, h1])
      go_wp2_with fail
      refine bodyPost_ret (v := .tuple #[.agg #[.slice A ln.length c, .slice P lp.length d], .bool false]) (by simp [results, Try.results33, go_sem, cer]) rfl ?_
      refine NetDoneS.mk HE.out rfl rfl (Os2.out.chg (a := (w.heap.size + 1 + 1)) (b := (w.heap.size + 1 + 1) + 1) (by (repeat (first | with_reducible refine Chg.setCell ?_ (by first | exact Nat.le_refl _ | (simp; done) | (simp; omega)) (by first | (simp; done) | (simp; omega)) _ | with_reducible refine Chg.alloc ?_ _ | with_reducible refine Chg.drew ?_)); (with_reducible exact Chg.refl _ _ _)) (.inl (by omega))) (Chg.of_below ?_) (fun T _ _ q cs h => h.below ?_ h.lt)
      · (repeat (first | with_reducible refine Below.setCell ?_ (by first | exact Nat.le_refl _ | (simp; done) | (simp; omega)) _ | with_reducible refine Below.alloc ?_ (by first | exact Nat.le_refl _ | (simp; done) | (simp; omega)) _ | with_reducible refine Below.drew ?_)); (with_reducible exact B2.out)
      · (repeat (first | with_reducible refine Below.setCell ?_ (by first | exact Nat.le_refl _ | (simp; done) | (simp; omega)) _ | with_reducible refine Below.alloc ?_ (by first | exact Nat.le_refl _ | (simp; done) | (simp; omega)) _ | with_reducible refine Below.drew ?_)); (with_reducible exact B2.out)
    have H1 := Lib.hid h1
    clear h1
    cases h2 : (m.f == 4)
    · skip
      have h2n : (m.f != 4) = true := by rw [bne, h2]; rfl
      have cex := Xx1.out.cell
      have fzx := Xx1.out.frozen
      have lbx := Xx1.out.lt
      have cey := Xy1.out.cell
      have fzy := Xy1.out.frozen
      have lby := Xy1.out.lt
      have cer := Xr1.out.cell
      have fzr := Xr1.out.frozen
      have lbr := Xr1.out.lt
      go_wp2_with fail
      refine (sMsgOk_b m true _ H1.out).mono ?_
      rintro e w2 ⟨rfl, hb⟩
      have C : Chg 0 0 w1 w2 := by exact Chg.of_below hb
      clear hb
      clear cex fzx
      clear cey fzy
      clear cer fzr
      clear lbx
      clear lby
      clear lbr
      have hs2 := C.size
      have B2 : Hid (Below w.heap.size w w2) := Lib.hid (B1.out.trans (C.under (B := w.heap.size) (by omega) (by omega)))
      clear B1
      have Xx2 : Hid (Blk w2 w.heap.size 27 #[.slice A ln.length c, .slice P lp.length d]) := Lib.hid ((C.block _ Xx1.out.lt (by omega)).trans Xx1.out)
      clear Xx1
      have Xy2 : Hid (Blk w2 (w.heap.size + 1) 51 #[.int .i64 ak, .int .i64 aa, .int .i64 ab, .int .i64 m.k, .int .i64 m.r, .int .i64 m.v, .int .i64 m.p, .int .i64 m.f]) := Lib.hid ((C.block _ Xy1.out.lt (by omega)).trans Xy1.out)
      clear Xy1
      have Xr2 : Hid (Blk w2 (w.heap.size + 1 + 1) 27 #[.slice none 0 0, .slice none 0 0]) := Lib.hid ((C.block _ Xr1.out.lt (by omega)).trans Xr1.out)
      clear Xr1
      have Os2 := Lib.hid (Os1.out.chg C (by omega))
      clear Os1
      clear C
      have cex := Xx2.out.cell
      have fzx := Xx2.out.frozen
      have lbx := Xx2.out.lt
      have cer := Xr2.out.cell
      have fzr := Xr2.out.frozen
      have lbr := Xr2.out.lt
      have cey := Xy2.out.cell
      have fzy := Xy2.out.frozen
      have lby := Xy2.out.lt
      have HE : Hid (netDoN ln lp ⟨ak, aa, ab, m⟩ = (ln, lp, false)) := Lib.hid (by have h1 := H1.out; unfold netDoN; simp [hk, lieBad, h1, h2])
      go_wp2_with fail
      refine bodyPost_ret (v := .tuple #[.agg #[.slice A ln.length c, .slice P lp.length d], .bool false]) (by simp [results, Try.results33, go_sem, cer]) rfl ?_
      refine NetDoneS.mk HE.out rfl rfl (Os2.out.chg (a := (w.heap.size + 1 + 1)) (b := (w.heap.size + 1 + 1) + 1) (by (repeat (first | with_reducible refine Chg.setCell ?_ (by first | exact Nat.le_refl _ | (simp; done) | (simp; omega)) (by first | (simp; done) | (simp; omega)) _ | with_reducible refine Chg.alloc ?_ _ | with_reducible refine Chg.drew ?_)); (with_reducible exact Chg.refl _ _ _)) (.inl (by omega))) (Chg.of_below ?_) (fun T _ _ q cs h => h.below ?_ h.lt)
      · (repeat (first | with_reducible refine Below.setCell ?_ (by first | exact Nat.le_refl _ | (simp; done) | (simp; omega)) _ | with_reducible refine Below.alloc ?_ (by first | exact Nat.le_refl _ | (simp; done) | (simp; omega)) _ | with_reducible refine Below.drew ?_)); (with_reducible exact B2.out)
      · (repeat (first | with_reducible refine Below.setCell ?_ (by first | exact Nat.le_refl _ | (simp; done) | (simp; omega)) _ | with_reducible refine Below.alloc ?_ (by first | exact Nat.le_refl _ | (simp; done) | (simp; omega)) _ | with_reducible refine Below.drew ?_)); (with_reducible exact B2.out)
    have h2n : (m.f != 4) = false := by rw [bne, h2]; rfl
    cases h3 : hasB lp m
    · skip
      have H3 := Lib.hid h3
      clear h3
      by_cases h4 : 150 ≤ lp.length
      · skip
        have cex := Xx1.out.cell
        have fzx := Xx1.out.frozen
        have lbx := Xx1.out.lt
        have cey := Xy1.out.cell
        have fzy := Xy1.out.frozen
        have lby := Xy1.out.lt
        have cer := Xr1.out.cell
        have fzr := Xr1.out.frozen
        have lbr := Xr1.out.lt
        go_wp2_with fail
        refine (sMsgOk_b m true _ H1.out).mono ?_
        rintro e w2 ⟨rfl, hb⟩
        have C : Chg 0 0 w1 w2 := by exact Chg.of_below hb
        clear hb
        clear cex fzx
        clear cey fzy
        clear cer fzr
        clear lbx
        clear lby
        clear lbr
        have hs2 := C.size
        have B2 : Hid (Below w.heap.size w w2) := Lib.hid (B1.out.trans (C.under (B := w.heap.size) (by omega) (by omega)))
        clear B1
        have Xx2 : Hid (Blk w2 w.heap.size 27 #[.slice A ln.length c, .slice P lp.length d]) := Lib.hid ((C.block _ Xx1.out.lt (by omega)).trans Xx1.out)
        clear Xx1
        have Xy2 : Hid (Blk w2 (w.heap.size + 1) 51 #[.int .i64 ak, .int .i64 aa, .int .i64 ab, .int .i64 m.k, .int .i64 m.r, .int .i64 m.v, .int .i64 m.p, .int .i64 m.f]) := Lib.hid ((C.block _ Xy1.out.lt (by omega)).trans Xy1.out)
        clear Xy1
        have Xr2 : Hid (Blk w2 (w.heap.size + 1 + 1) 27 #[.slice none 0 0, .slice none 0 0]) := Lib.hid ((C.block _ Xr1.out.lt (by omega)).trans Xr1.out)
        clear Xr1
        have Os2 := Lib.hid (Os1.out.chg C (by omega))
        clear Os1
        clear C
        have cex := Xx2.out.cell
        have fzx := Xx2.out.frozen
        have lbx := Xx2.out.lt
        have cey := Xy2.out.cell
        have fzy := Xy2.out.frozen
        have lby := Xy2.out.lt
        have cer := Xr2.out.cell
        have fzr := Xr2.out.frozen
        have lbr := Xr2.out.lt
        go_wp2_with fail
        refine (l16Has_b P lp.length d lp m false _ Os2.out.rdp H3.out).mono ?_
        rintro e w3 ⟨rfl, hb⟩
        have C : Chg 0 0 w2 w3 := by exact Chg.of_below hb
        clear hb
        clear cex fzx
        clear cey fzy
        clear cer fzr
        clear lbx
        clear lby
        clear lbr
        have hs3 := C.size
        have B3 : Hid (Below w.heap.size w w3) := Lib.hid (B2.out.trans (C.under (B := w.heap.size) (by omega) (by omega)))
        clear B2
        have Xx3 : Hid (Blk w3 w.heap.size 27 #[.slice A ln.length c, .slice P lp.length d]) := Lib.hid ((C.block _ Xx2.out.lt (by omega)).trans Xx2.out)
        clear Xx2
        have Xy3 : Hid (Blk w3 (w.heap.size + 1) 51 #[.int .i64 ak, .int .i64 aa, .int .i64 ab, .int .i64 m.k, .int .i64 m.r, .int .i64 m.v, .int .i64 m.p, .int .i64 m.f]) := Lib.hid ((C.block _ Xy2.out.lt (by omega)).trans Xy2.out)
        clear Xy2
        have Xr3 : Hid (Blk w3 (w.heap.size + 1 + 1) 27 #[.slice none 0 0, .slice none 0 0]) := Lib.hid ((C.block _ Xr2.out.lt (by omega)).trans Xr2.out)
        clear Xr2
        have Os3 := Lib.hid (Os2.out.chg C (by omega))
        clear Os2
        clear C
        have cex := Xx3.out.cell
        have fzx := Xx3.out.frozen
        have lbx := Xx3.out.lt
        have cer := Xr3.out.cell
        have fzr := Xr3.out.frozen
        have lbr := Xr3.out.lt
        have cey := Xy3.out.cell
        have fzy := Xy3.out.frozen
        have lby := Xy3.out.lt
        have HE : Hid (netDoN ln lp ⟨ak, aa, ab, m⟩ = (ln, lp, false)) := Lib.hid (by have h1 := H1.out; have h3 := H3.out; unfold netDoN; simp [hk, lieBad, h1, h2, h3, h4])
        go_wp2_with fail
        refine bodyPost_ret (v := .tuple #[.agg #[.slice A ln.length c, .slice P lp.length d], .bool false]) (by simp [results, Try.results33, go_sem, cer]) rfl ?_
        refine NetDoneS.mk HE.out rfl rfl (Os3.out.chg (a := (w.heap.size + 1 + 1)) (b := (w.heap.size + 1 + 1) + 1) (by (repeat (first | with_reducible refine Chg.setCell ?_ (by first | exact Nat.le_refl _ | (simp; done) | (simp; omega)) (by first | (simp; done) | (simp; omega)) _ | with_reducible refine Chg.alloc ?_ _ | with_reducible refine Chg.drew ?_)); (with_reducible exact Chg.refl _ _ _)) (.inl (by omega))) (Chg.of_below ?_) (fun T _ _ q cs h => h.below ?_ h.lt)
        · (repeat (first | with_reducible refine Below.setCell ?_ (by first | exact Nat.le_refl _ | (simp; done) | (simp; omega)) _ | with_reducible refine Below.alloc ?_ (by first | exact Nat.le_refl _ | (simp; done) | (simp; omega)) _ | with_reducible refine Below.drew ?_)); (with_reducible exact B3.out)
        · (repeat (first | with_reducible refine Below.setCell ?_ (by first | exact Nat.le_refl _ | (simp; done) | (simp; omega)) _ | with_reducible refine Below.alloc ?_ (by first | exact Nat.le_refl _ | (simp; done) | (simp; omega)) _ | with_reducible refine Below.drew ?_)); (with_reducible exact B3.out)
      have cex := Xx1.out.cell
      have fzx := Xx1.out.frozen
      have lbx := Xx1.out.lt
      have cey := Xy1.out.cell
      have fzy := Xy1.out.frozen
      have lby := Xy1.out.lt
      have cer := Xr1.out.cell
      have fzr := Xr1.out.frozen
      have lbr := Xr1.out.lt
      go_wp2_with fail
      refine (sMsgOk_b m true _ H1.out).mono ?_
      rintro e w2 ⟨rfl, hb⟩
      have C : Chg 0 0 w1 w2 := by exact Chg.of_below hb
      clear hb
      clear cex fzx
      clear cey fzy
      clear cer fzr
      clear lbx
      clear lby
      clear lbr
      have hs2 := C.size
      have B2 : Hid (Below w.heap.size w w2) := Lib.hid (B1.out.trans (C.under (B := w.heap.size) (by omega) (by omega)))
      clear B1
      have Xx2 : Hid (Blk w2 w.heap.size 27 #[.slice A ln.length c, .slice P lp.length d]) := Lib.hid ((C.block _ Xx1.out.lt (by omega)).trans Xx1.out)
      clear Xx1
      have Xy2 : Hid (Blk w2 (w.heap.size + 1) 51 #[.int .i64 ak, .int .i64 aa, .int .i64 ab, .int .i64 m.k, .int .i64 m.r, .int .i64 m.v, .int .i64 m.p, .int .i64 m.f]) := Lib.hid ((C.block _ Xy1.out.lt (by omega)).trans Xy1.out)
      clear Xy1
      have Xr2 : Hid (Blk w2 (w.heap.size + 1 + 1) 27 #[.slice none 0 0, .slice none 0 0]) := Lib.hid ((C.block _ Xr1.out.lt (by omega)).trans Xr1.out)
      clear Xr1
      have Os2 := Lib.hid (Os1.out.chg C (by omega))
      clear Os1
      clear C
      have cex := Xx2.out.cell
      have fzx := Xx2.out.frozen
      have lbx := Xx2.out.lt
      have cey := Xy2.out.cell
      have fzy := Xy2.out.frozen
      have lby := Xy2.out.lt
      have cer := Xr2.out.cell
      have fzr := Xr2.out.frozen
      have lbr := Xr2.out.lt
      go_wp2_with fail
      refine (l16Has_b P lp.length d lp m false _ Os2.out.rdp H3.out).mono ?_
      rintro e w3 ⟨rfl, hb⟩
      have C : Chg 0 0 w2 w3 := by exact Chg.of_below hb
      clear hb
      clear cex fzx
      clear cey fzy
      clear cer fzr
      clear lbx
      clear lby
      clear lbr
      have hs3 := C.size
      have B3 : Hid (Below w.heap.size w w3) := Lib.hid (B2.out.trans (C.under (B := w.heap.size) (by omega) (by omega)))
      clear B2
      have Xx3 : Hid (Blk w3 w.heap.size 27 #[.slice A ln.length c, .slice P lp.length d]) := Lib.hid ((C.block _ Xx2.out.lt (by omega)).trans Xx2.out)
      clear Xx2
      have Xy3 : Hid (Blk w3 (w.heap.size + 1) 51 #[.int .i64 ak, .int .i64 aa, .int .i64 ab, .int .i64 m.k, .int .i64 m.r, .int .i64 m.v, .int .i64 m.p, .int .i64 m.f]) := Lib.hid ((C.block _ Xy2.out.lt (by omega)).trans Xy2.out)
      clear Xy2
      have Xr3 : Hid (Blk w3 (w.heap.size + 1 + 1) 27 #[.slice none 0 0, .slice none 0 0]) := Lib.hid ((C.block _ Xr2.out.lt (by omega)).trans Xr2.out)
      clear Xr2
      have Os3 := Lib.hid (Os2.out.chg C (by omega))
      clear Os2
      clear C
      have HE : Hid (netDoN ln lp ⟨ak, aa, ab, m⟩ = (ln, lp ++ [m], true)) := Lib.hid (by have h1 := H1.out; have h3 := H3.out; unfold netDoN; simp [hk, lieBad, h1, h2, h3, h4])
      have cex := Xx3.out.cell
      have fzx := Xx3.out.frozen
      have lbx := Xx3.out.lt
      have cey := Xy3.out.cell
      have fzy := Xy3.out.frozen
      have lby := Xy3.out.lt
      have cer := Xr3.out.cell
      have fzr := Xr3.out.frozen
      have lbr := Xr3.out.lt
      go_wp2_with (at_builtin; refine wpList_app_rd _ rfl _ _ _ rfl lo 49 i0 _ 5 40 Try.underlying25 hi0 hz0 hz1 hz2 rfl (by decide) (.slice P lp.length d) lp.length (lp.flatMap msgC) rfl (by exact (Os3.out.pool.owns msgC_len).alloc _) _ _ 1 1 _ rfl (by exact Rd.one5S w3 m _ (by first | rfl | simp)) (msgC_oneS _) (by unfold maxLen; omega) (by omega) (by first | (simp; done) | (simp; omega)) ?_)
      intro v2 w4 hown hg hat
      obtain ⟨P2, d2, rfl, hS4, hC4⟩ := (Os3.out.below ((Below.refl _ _).alloc (Nat.le_refl _) _)).app hown hg hat (by simp)
      have hC := (Chg.refl lo hi w3).alloc (.cells #[.int .i64 m.k, .int .i64 m.r, .int .i64 m.v, .int .i64 m.p, .int .i64 m.f] 49) |>.trans hC4
      have hX4 := Lib.hid (show Blk w4 w.heap.size 27 #[.slice A ln.length c, .slice P lp.length d] from (hC.block _ Xx3.out.lt (.inr (by omega))).trans Xx3.out)
      have hR4 := Lib.hid (show Blk w4 (w.heap.size + 1 + 1) 27 #[.slice none 0 0, .slice none 0 0] from (hC.block _ Xr3.out.lt (.inr (by omega))).trans Xr3.out)
      have HS4 := Lib.hid hS4
      have HC4 := Lib.hid hC
      have HT4 : Hid (∀ T, T ≠ 79 → T ≠ 49 → ∀ q cs, Blk w3 q T cs → Blk w4 q T cs) := Lib.hid fun T _ hT2 q cs h => grown_box (Os3.out.below ((Below.refl _ _).alloc (Nat.le_refl _) _)).pool hg hT2 (h.alloc _)
      have hsz4 := hC.size
      clear hown hg hat hS4 hC hC4
      clear cex fzx
      clear cey fzy
      clear cer fzr
      clear lbx
      clear lby
      clear lbr
      have cex := hX4.out.cell
      have fzx := hX4.out.frozen
      have lbx := hX4.out.lt
      have cer := hR4.out.cell
      have fzr := hR4.out.frozen
      have lbr := hR4.out.lt
      have hne1 : w.heap.size ≠ w.heap.size + 1 + 1 := by omega
      go_wp2_with fail
      refine bodyPost_ret (v := .tuple #[.agg #[.slice A ln.length c, .slice P2 (lp.length + 1) d2], .bool true]) (by simp [results, Try.results33, go_sem, cer]) rfl ?_
      have D : Chg w.heap.size (w.heap.size + 1) w4 (w4.setCell ⟨w.heap.size, 1, none⟩ (.slice P2 (lp.length + 1) d2)) := Chg.setCell (p := ⟨w.heap.size, 1, none⟩) (Chg.refl _ _ w4) (Nat.le_refl _) (Nat.lt_succ_self _) _
      have hR5 : Blk (w4.setCell ⟨w.heap.size, 1, none⟩ (.slice P2 (lp.length + 1) d2)) (w.heap.size + 1 + 1) 27 #[.slice none 0 0, .slice none 0 0] := (D.block _ hR4.out.lt (.inr (by omega))).trans hR4.out
      refine NetDoneS.mk HE.out rfl (by simp) ((HS4.out.box hX4.out (by decide) (by decide) D).box hR5 (by decide) (by decide) (by (repeat (first | with_reducible refine Chg.setCell ?_ (by first | exact Nat.le_refl _ | (simp; done) | (simp; omega)) (by first | (simp; done) | (simp; omega)) _ | with_reducible refine Chg.alloc ?_ _ | with_reducible refine Chg.drew ?_)); (with_reducible exact Chg.refl _ _ _))) (Chg.then_below ((Chg.of_below B3.out).trans HC4.out) ?_) (fun T hT1 hT2 q cs h => (HT4.out T hT1 hT2 q cs (h.below B3.out h.lt)).below (B := w.heap.size) ?_ h.lt)
      · (repeat (first | with_reducible refine Below.setCell ?_ (by first | exact Nat.le_refl _ | (simp; done) | (simp; omega)) _ | with_reducible refine Below.alloc ?_ (by first | exact Nat.le_refl _ | (simp; done) | (simp; omega)) _ | with_reducible refine Below.drew ?_)); (with_reducible exact (Below.refl w.heap.size w4))
      · (repeat (first | with_reducible refine Below.setCell ?_ (by first | exact Nat.le_refl _ | (simp; done) | (simp; omega)) _ | with_reducible refine Below.alloc ?_ (by first | exact Nat.le_refl _ | (simp; done) | (simp; omega)) _ | with_reducible refine Below.drew ?_)); (with_reducible exact (Below.refl w.heap.size w4))
    have H3 := Lib.hid h3
    clear h3
    have cex := Xx1.out.cell
    have fzx := Xx1.out.frozen
    have lbx := Xx1.out.lt
    have cey := Xy1.out.cell
    have fzy := Xy1.out.frozen
    have lby := Xy1.out.lt
    have cer := Xr1.out.cell
    have fzr := Xr1.out.frozen
    have lbr := Xr1.out.lt
    go_wp2_with fail
    refine (sMsgOk_b m true _ H1.out).mono ?_
    rintro e w2 ⟨rfl, hb⟩
    have C : Chg 0 0 w1 w2 := by exact Chg.of_below hb
    clear hb
    clear cex fzx
    clear cey fzy
    clear cer fzr
    clear lbx
    clear lby
    clear lbr
    have hs2 := C.size
    have B2 : Hid (Below w.heap.size w w2) := Lib.hid (B1.out.trans (C.under (B := w.heap.size) (by omega) (by omega)))
    clear B1
    have Xx2 : Hid (Blk w2 w.heap.size 27 #[.slice A ln.length c, .slice P lp.length d]) := Lib.hid ((C.block _ Xx1.out.lt (by omega)).trans Xx1.out)
    clear Xx1
    have Xy2 : Hid (Blk w2 (w.heap.size + 1) 51 #[.int .i64 ak, .int .i64 aa, .int .i64 ab, .int .i64 m.k, .int .i64 m.r, .int .i64 m.v, .int .i64 m.p, .int .i64 m.f]) := Lib.hid ((C.block _ Xy1.out.lt (by omega)).trans Xy1.out)
    clear Xy1
    have Xr2 : Hid (Blk w2 (w.heap.size + 1 + 1) 27 #[.slice none 0 0, .slice none 0 0]) := Lib.hid ((C.block _ Xr1.out.lt (by omega)).trans Xr1.out)
    clear Xr1
    have Os2 := Lib.hid (Os1.out.chg C (by omega))
    clear Os1
    clear C
    have cex := Xx2.out.cell
    have fzx := Xx2.out.frozen
    have lbx := Xx2.out.lt
    have cey := Xy2.out.cell
    have fzy := Xy2.out.frozen
    have lby := Xy2.out.lt
    have cer := Xr2.out.cell
    have fzr := Xr2.out.frozen
    have lbr := Xr2.out.lt
    go_wp2_with fail
    refine (l16Has_b P lp.length d lp m true _ Os2.out.rdp H3.out).mono ?_
    rintro e w3 ⟨rfl, hb⟩
    have C : Chg 0 0 w2 w3 := by exact Chg.of_below hb
    clear hb
    clear cex fzx
    clear cey fzy
    clear cer fzr
    clear lbx
    clear lby
    clear lbr
    have hs3 := C.size
    have B3 : Hid (Below w.heap.size w w3) := Lib.hid (B2.out.trans (C.under (B := w.heap.size) (by omega) (by omega)))
    clear B2
    have Xx3 : Hid (Blk w3 w.heap.size 27 #[.slice A ln.length c, .slice P lp.length d]) := Lib.hid ((C.block _ Xx2.out.lt (by omega)).trans Xx2.out)
    clear Xx2
    have Xy3 : Hid (Blk w3 (w.heap.size + 1) 51 #[.int .i64 ak, .int .i64 aa, .int .i64 ab, .int .i64 m.k, .int .i64 m.r, .int .i64 m.v, .int .i64 m.p, .int .i64 m.f]) := Lib.hid ((C.block _ Xy2.out.lt (by omega)).trans Xy2.out)
    clear Xy2
    have Xr3 : Hid (Blk w3 (w.heap.size + 1 + 1) 27 #[.slice none 0 0, .slice none 0 0]) := Lib.hid ((C.block _ Xr2.out.lt (by omega)).trans Xr2.out)
    clear Xr2
    have Os3 := Lib.hid (Os2.out.chg C (by omega))
    clear Os2
    clear C
    have cex := Xx3.out.cell
    have fzx := Xx3.out.frozen
    have lbx := Xx3.out.lt
    have cer := Xr3.out.cell
    have fzr := Xr3.out.frozen
    have lbr := Xr3.out.lt
    have cey := Xy3.out.cell
    have fzy := Xy3.out.frozen
    have lby := Xy3.out.lt
    have HE : Hid (netDoN ln lp ⟨ak, aa, ab, m⟩ = (ln, lp, false)) := Lib.hid (by have h1 := H1.out; have h3 := H3.out; unfold netDoN; simp [hk, lieBad, h1, h2, h3])
    go_wp2_with fail
    refine bodyPost_ret (v := .tuple #[.agg #[.slice A ln.length c, .slice P lp.length d], .bool false]) (by simp [results, Try.results33, go_sem, cer]) rfl ?_
    refine NetDoneS.mk HE.out rfl rfl (Os3.out.chg (a := (w.heap.size + 1 + 1)) (b := (w.heap.size + 1 + 1) + 1) (by (repeat (first | with_reducible refine Chg.setCell ?_ (by first | exact Nat.le_refl _ | (simp; done) | (simp; omega)) (by first | (simp; done) | (simp; omega)) _ | with_reducible refine Chg.alloc ?_ _ | with_reducible refine Chg.drew ?_)); (with_reducible exact Chg.refl _ _ _)) (.inl (by omega))) (Chg.of_below ?_) (fun T _ _ q cs h => h.below ?_ h.lt)
    · (repeat (first | with_reducible refine Below.setCell ?_ (by first | exact Nat.le_refl _ | (simp; done) | (simp; omega)) _ | with_reducible refine Below.alloc ?_ (by first | exact Nat.le_refl _ | (simp; done) | (simp; omega)) _ | with_reducible refine Below.drew ?_)); (with_reducible exact B3.out)
    · (repeat (first | with_reducible refine Below.setCell ?_ (by first | exact Nat.le_refl _ | (simp; done) | (simp; omega)) _ | with_reducible refine Below.alloc ?_ (by first | exact Nat.le_refl _ | (simp; done) | (simp; omega)) _ | with_reducible refine Below.drew ?_)); (with_reducible exact B3.out)
end Go.Proofs.Ytjgaelnonacdkaa
