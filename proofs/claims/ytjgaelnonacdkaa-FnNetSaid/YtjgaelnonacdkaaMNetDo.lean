/- netDo of the program (written by wip/netdo.py). -/
import Derived.Deep.CutBlock
import Derived.WalkKit
import Derived.WalkSpells
import Derived.WalkLawsBesides
import Derived.Lib.Hide
import Derived.Test.YtjgaelnonacdkaaG35
import Derived.Test.YtjgaelnonacdkaaMActCalls
namespace Go.Proofs.Ytjgaelnonacdkaa
open Go.RowKit

theorem NetIn.close {w0 lo m1 m2 R c d : Nat} {A P : Option Addr} {ln : List NodeD} {lp : List NMsgD} {w w' : World} (hn : NodesOwn w m1 m2 A ln.length c ln) (hp : PoolIn w lo m1 m2 P d lp) (hD : Chg R (R + 1) w w') (hR : R + 1 ≤ lo) (h0 : w0 ≤ lo) (h1 : lo ≤ m1) (h2 : m1 ≤ m2) (h3 : m2 ≤ w.heap.size) : NetIn w' w0 m1 m2 A c P d ln lp :=
  ⟨by omega, h2, Nat.le_trans h3 hD.size, hn.chg hD (.inr (by omega)), (hp.chg hD (.inr hR) (by omega)).elim (fun h => .inl (h.wide h0 (Nat.le_refl _))) .inr⟩

theorem netDoN_no {ln : List NodeD} {lp : List NMsgD} {a : ActD} {n : NodeD} {r : RunS × Bool} (h4 : (a.k == 4) = false) (hb : actBad lp a = false) (hn : nodeN ln a.a = n) (hr : r = callN lp n a) (h2 : r.2 = false) : netDoN ln lp a = (ln, lp, false) := by
  unfold netDoN
  rw [h4, if_neg (by simp), hb, if_neg (by simp), hn, ← hr, h2, if_neg (by simp)]
theorem netDoN_big {ln : List NodeD} {lp : List NMsgD} {a : ActD} {n : NodeD} {r : RunS × Bool} (h4 : (a.k == 4) = false) (hb : actBad lp a = false) (hn : nodeN ln a.a = n) (hr : r = callN lp n a) (h2 : r.2 = true) (hl : 150 < (addAll lp r.1.o).length) : netDoN ln lp a = (ln, lp, false) := by
  unfold netDoN
  rw [h4, if_neg (by simp), hb, if_neg (by simp), hn, ← hr, h2, if_pos rfl, if_pos hl]
theorem netDoN_yes {ln : List NodeD} {lp : List NMsgD} {a : ActD} {n : NodeD} {r : RunS × Bool} (h4 : (a.k == 4) = false) (hb : actBad lp a = false) (hn : nodeN ln a.a = n) (hr : r = callN lp n a) (h2 : r.2 = true) (hl : ¬ 150 < (addAll lp r.1.o).length) : netDoN ln lp a = (ln.set (a.a - 1).toNat ⟨r.1.s, r.1.l⟩, addAll lp r.1.o, true) := by
  unfold netDoN
  rw [h4, if_neg (by simp), hb, if_neg (by simp), hn, ← hr, h2, if_pos rfl, if_neg hl]
theorem addAll_len : ∀ (p o : List NMsgD), (addAll p o).length ≤ p.length + o.length := by
  intro p o
  induction o generalizing p with
  | nil => simp [addAll]
  | cons m o ih =>
    have h := ih (addN p m)
    unfold addAll at h ⊢
    rw [List.foldl_cons, List.length_cons]
    have : (addN p m).length ≤ p.length + 1 := by unfold addN; split <;> simp
    omega
theorem callN_len (lp : List NMsgD) (n : NodeD) (a : ActD) (hn : n.l.length ≤ 2000) : (callN lp n a).1.l.length ≤ 2000 ∧ (callN lp n a).1.o.length ≤ 2000 := by
  unfold callN
  split
  · exact startN_len _ _
  · split
    · exact getN_len _ _ _
    · split
      · exact timeN_len _ _ _
      · exact ⟨hn, by simp⟩
theorem within_b (x lo hi : Int) (b : Bool) (w : World) (h : inB x lo hi = b) :
    Calls Try.prog 75 #[.int .i64 x, .int .i64 lo, .int .i64 hi] w fun e w' => e = .returned (.bool b) ∧ w = w' := by
  have hh := within_any x lo hi w
  rw [h] at hh
  exact hh

set_option maxRecDepth 100000 in
set_option maxHeartbeats 8000000 in
theorem netDo_any (A : Option Addr) (c : Nat) (P : Option Addr) (d : Nat) (ln : List NodeD) (lp : List NMsgD) (ak aa ab : Int) (m : NMsgD) (w : World) (hl : NodesRd w w.heap.size A ln.length c ln) (hp : RdL msgC 5 w w.heap.size P lp.length d lp) (hB : netB ln lp = true) :
    Calls Try.prog 35 #[.agg #[.slice A ln.length c, .slice P lp.length d], .agg #[.int .i64 ak, .int .i64 aa, .int .i64 ab, .int .i64 m.k, .int .i64 m.r, .int .i64 m.v, .int .i64 m.p, .int .i64 m.f]] w (NetDid (netDoN ln lp ⟨ak, aa, ab, m⟩) w) := by
  have hB' := netB_iff.1 hB
  obtain ⟨h3, hpk, hp150, hnodes⟩ := hB'
  have HN := Lib.hid hnodes
  have HM : Hid (∀ x ∈ ln, x.l.length ≤ 1048576) := Lib.hid fun x hx => by
    obtain ⟨i, hi⟩ := List.mem_iff_getElem?.1 hx
    have := (hnodes i x hi).1.len
    omega
  have HL := Lib.hid hl
  have HP := Lib.hid hp
  have hn3 : ln.length ≤ 3 := by omega
  have hn3' : 3 ≤ ln.length := by omega
  have HBB := Lib.hid hB
  clear hl hp hpk h3 hnodes hB
  obtain ⟨i0, hi, hz0, hz1, hz2⟩ := info_parts infoMsg
  go_enter Try.func35, Try.ntmps35
  go_wp2_with fail
  refine (copyNet_any A c P d ln lp _ ?_ ?_ (by omega) HM.out (by omega)).mono ?_
  · exact (((HL.out.alloc (Nat.le_refl _) _).alloc (by simp) _).alloc (by simp; omega) _).more (by simp; omega)
  · exact (((HP.out.alloc (Nat.le_refl _) _).alloc (by simp) _).alloc (by simp; omega) _).more (by simp; omega)
  rintro e w1 ⟨A1, c1, P1, d1, m1, rfl, hm1, hm1', ho, hpo, hb⟩
  simp only [World.size_alloc] at hm1 hb
  have hX1 : Blk w1 w.heap.size 27 #[.slice A ln.length c, .slice P lp.length d] := (((show Blk (w.alloc _) w.heap.size _ _ from heap_alloc_new w _).alloc _).alloc _).below hb (by omega)
  have hY1 : Blk w1 (w.heap.size + 1) 51 #[.int .i64 ak, .int .i64 aa, .int .i64 ab, .int .i64 m.k, .int .i64 m.r, .int .i64 m.v, .int .i64 m.p, .int .i64 m.f] := by
    have h := heap_alloc_new (w.alloc (.cells #[.slice A ln.length c, .slice P lp.length d] 27)) (.cells #[.int .i64 ak, .int .i64 aa, .int .i64 ab, .int .i64 m.k, .int .i64 m.r, .int .i64 m.v, .int .i64 m.p, .int .i64 m.f] 51)
    rw [World.size_alloc] at h
    exact ((show Blk _ _ _ _ from h).alloc _).below hb (by omega)
  have hR1 : Blk w1 (w.heap.size + 1 + 1) 27 #[.slice none 0 0, .slice none 0 0] := (blk_alloc3 w (.cells #[.slice A ln.length c, .slice P lp.length d] 27) (.cells #[.int .i64 ak, .int .i64 aa, .int .i64 ab, .int .i64 m.k, .int .i64 m.r, .int .i64 m.v, .int .i64 m.p, .int .i64 m.f] 51) #[.slice none 0 0, .slice none 0 0] 27).below hb (by omega)
  have B1 : Hid (Below w.heap.size w w1) := Lib.hid ((((Below.refl _ _).alloc (Nat.le_refl _) _).alloc (by simp) _).alloc (by simp; omega) _ |>.trans (hb.mono (by omega)))
  have Xx1 := Lib.hid hX1
  have Xy1 := Lib.hid hY1
  have Xr1 := Lib.hid hR1
  have On1 := Lib.hid ho
  have hw3 : w.heap.size + 3 ≤ m1 := by omega
  have Op1 : Hid (OwnL msgC 5 49 w1 (w.heap.size + 3) m1 P1 lp.length d1 lp) := Lib.hid (hpo.wide (by simp only [World.size_alloc]; omega) (Nat.le_refl _))
  have hs1 : w.heap.size + 3 ≤ w1.heap.size := by omega
  clear ho hpo hb hX1 hY1 hR1
  go_upto_region 2 with fail
  obtain ⟨w2, hnw2⟩ : ∃ q, q = w1.alloc (.cells #[.slice A1 ln.length c1, .slice P1 lp.length d1] 27) := ⟨_, rfl⟩
  rw [← hnw2]
  have C : Chg 0 0 w1 w2 := by rw [hnw2]; exact (Chg.refl _ _ _).alloc _
  have huw2 : w1.heap.size + 1 ≤ w2.heap.size := by rw [hnw2]; simp
  have hvw2 : w2.heap.size ≤ w1.heap.size + 1 := by rw [hnw2]; simp
  have hblk : Blk w2 w1.heap.size 27 #[.slice A1 ln.length c1, .slice P1 lp.length d1] := by rw [hnw2]; exact heap_alloc_new w1 _
  clear hnw2
  have hs2 := C.size
  have B2 : Hid (Below w.heap.size w w2) := Lib.hid (B1.out.trans (C.under (B := w.heap.size) (by omega) (by omega)))
  clear B1
  have Xx2 : Hid (Blk w2 w.heap.size 27 #[.slice A ln.length c, .slice P lp.length d]) := Lib.hid ((C.block _ Xx1.out.lt (by omega)).trans Xx1.out)
  clear Xx1
  have Xy2 : Hid (Blk w2 (w.heap.size + 1) 51 #[.int .i64 ak, .int .i64 aa, .int .i64 ab, .int .i64 m.k, .int .i64 m.r, .int .i64 m.v, .int .i64 m.p, .int .i64 m.f]) := Lib.hid ((C.block _ Xy1.out.lt (by omega)).trans Xy1.out)
  clear Xy1
  have Xr2 : Hid (Blk w2 (w.heap.size + 1 + 1) 27 #[.slice none 0 0, .slice none 0 0]) := Lib.hid ((C.block _ Xr1.out.lt (by omega)).trans Xr1.out)
  clear Xr1
  have On2 := Lib.hid (On1.out.chg C (by omega))
  clear On1
  have Op2 := Lib.hid (Op1.out.chg C (by omega))
  clear Op1
  have Xo2 := Lib.hid hblk
  clear hblk C
  cases hk : (ak == 4)
  · skip
    have hk4 : (ak == 4) = false := hk
    clear hk
    have cey := Xy2.out.cell
    have fzy := Xy2.out.frozen
    have lby := Xy2.out.lt
    have cex := Xx2.out.cell
    have fzx := Xx2.out.frozen
    have lbx := Xx2.out.lt
    have cer := Xr2.out.cell
    have fzr := Xr2.out.frozen
    have lbr := Xr2.out.lt
    have ceo := Xo2.out.cell
    have fzo := Xo2.out.frozen
    have lbo := Xo2.out.lt
    go_upto_region 7 with fail
    go_cut [67] (fun sx wx => sx = .bool (actBad lp ⟨ak, aa, ab, m⟩) ∧ Below w2.heap.size w2 wx)
    case first =>
      cases g1 : inB aa 1 3
      · have G1 := Lib.hid g1
        clear g1
        go_wp2_with fail
        refine (within_b aa 1 3 false _ G1.out).mono ?_
        rintro e w' ⟨rfl, rfl⟩
        go_wp2_with fail
        go_meet
        exact ⟨congrArg Value.bool (Eq.symm (by have g1 := G1.out; simp [actBad, g1])), Below.refl _ _⟩
      have G1 := Lib.hid g1
      clear g1
      cases g2 : (ak == 2)
      · skip
        go_wp2_with fail
        refine (within_b aa 1 3 true _ G1.out).mono ?_
        rintro e w' ⟨rfl, rfl⟩
        go_wp2_with fail
        go_meet
        exact ⟨congrArg Value.bool (Eq.symm (by have g1 := G1.out; simp [actBad, g1, g2])), Below.refl _ _⟩
      cases g3 : inB ab 0 ((lp.length : Int) - 1)
      · have G3 := Lib.hid g3
        clear g3
        go_wp2_with fail
        refine (within_b aa 1 3 true _ G1.out).mono ?_
        rintro e w' ⟨rfl, rfl⟩
        go_wp2_with fail
        refine (within_b ab 0 ((lp.length : Int) - 1) false _ G3.out).mono ?_
        rintro e w' ⟨rfl, rfl⟩
        go_wp2_with fail
        go_meet
        exact ⟨congrArg Value.bool (Eq.symm (by have g1 := G1.out; have g3 := G3.out; simp [actBad, g1, g2, g3])), Below.refl _ _⟩
      · have G3 := Lib.hid g3
        clear g3
        go_wp2_with fail
        refine (within_b aa 1 3 true _ G1.out).mono ?_
        rintro e w' ⟨rfl, rfl⟩
        go_wp2_with fail
        refine (within_b ab 0 ((lp.length : Int) - 1) true _ G3.out).mono ?_
        rintro e w' ⟨rfl, rfl⟩
        go_wp2_with fail
        go_meet
        exact ⟨congrArg Value.bool (Eq.symm (by have g1 := G1.out; have g3 := G3.out; simp [actBad, g1, g2, g3])), Below.refl _ _⟩
    case rest =>
    obtain ⟨rfl, hb⟩ := hcut
    obtain ⟨w3, hw⟩ : ∃ q, q = wc := ⟨_, rfl⟩
    subst hw
    have C : Chg 0 0 w2 w3 := Chg.of_below hb
    clear hb
    clear cey fzy
    clear cex fzx
    clear cer fzr
    clear ceo fzo
    clear lby
    clear lbx
    clear lbr
    clear lbo
    have hs3 := C.size
    have B3 : Hid (Below w.heap.size w w3) := Lib.hid (B2.out.trans (C.under (B := w.heap.size) (by omega) (by omega)))
    clear B2
    have Xx3 : Hid (Blk w3 w.heap.size 27 #[.slice A ln.length c, .slice P lp.length d]) := Lib.hid ((C.block _ Xx2.out.lt (by omega)).trans Xx2.out)
    clear Xx2
    have Xy3 : Hid (Blk w3 (w.heap.size + 1) 51 #[.int .i64 ak, .int .i64 aa, .int .i64 ab, .int .i64 m.k, .int .i64 m.r, .int .i64 m.v, .int .i64 m.p, .int .i64 m.f]) := Lib.hid ((C.block _ Xy2.out.lt (by omega)).trans Xy2.out)
    clear Xy2
    have Xr3 : Hid (Blk w3 (w.heap.size + 1 + 1) 27 #[.slice none 0 0, .slice none 0 0]) := Lib.hid ((C.block _ Xr2.out.lt (by omega)).trans Xr2.out)
    clear Xr2
    have Xo3 : Hid (Blk w3 w1.heap.size 27 #[.slice A1 ln.length c1, .slice P1 lp.length d1]) := Lib.hid ((C.block _ Xo2.out.lt (by omega)).trans Xo2.out)
    clear Xo2
    have On3 := Lib.hid (On2.out.chg C (by omega))
    clear On2
    have Op3 := Lib.hid (Op2.out.chg C (by omega))
    clear Op2
    clear C
    obtain ⟨bad, hbad⟩ : ∃ q, actBad lp ⟨ak, aa, ab, m⟩ = q := ⟨_, rfl⟩
    rw [hbad]
    have HBAD := Lib.hid hbad
    clear hbad
    cases bad
    case true =>
      have ceo := Xo3.out.cell
      have fzo := Xo3.out.frozen
      have lbo := Xo3.out.lt
      have cer := Xr3.out.cell
      have fzr := Xr3.out.frozen
      have lbr := Xr3.out.lt
      have cex := Xx3.out.cell
      have fzx := Xx3.out.frozen
      have lbx := Xx3.out.lt
      have cey := Xy3.out.cell
      have fzy := Xy3.out.frozen
      have lby := Xy3.out.lt
      have HE : Hid (netDoN ln lp ⟨ak, aa, ab, m⟩ = (ln, lp, false)) := Lib.hid (by have h := HBAD.out; unfold netDoN; simp [hk4, h])
      go_wp2_with fail
      refine bodyPost_ret (v := .tuple #[.agg #[.slice A1 ln.length c1, .slice P1 lp.length d1], .bool false]) (by simp [results, Try.results35, go_sem, cer]) rfl ?_
      refine NetDid.mk HE.out rfl rfl (NetIn.close (w := w3) (R := (w.heap.size + 1 + 1)) On3.out (.inl Op3.out) (by (repeat (first | with_reducible refine Chg.setCell ?_ (by first | exact Nat.le_refl _ | (simp; done) | (simp; omega)) (by first | (simp; done) | (simp; omega)) _ | with_reducible refine Chg.alloc ?_ _ | with_reducible refine Chg.drew ?_)); (with_reducible exact Chg.refl _ _ _)) (by omega) (by omega) hw3 (by omega) (by omega)) ?_
      (repeat (first | with_reducible refine Below.setCell ?_ (by first | exact Nat.le_refl _ | (simp; done) | (simp; omega)) _ | with_reducible refine Below.alloc ?_ (by first | exact Nat.le_refl _ | (simp; done) | (simp; omega)) _ | with_reducible refine Below.drew ?_)); (with_reducible exact B3.out)
    have hbad := HBAD.out
    have HA := Lib.hid hbad
    have hacts : (1 ≤ aa ∧ aa ≤ 3) ∧ (ak = 2 → 0 ≤ ab ∧ ab ≤ (lp.length : Int) - 1) := by
      simp only [actBad, Bool.or_eq_false_iff, Bool.not_eq_false', inB_iff, Bool.and_eq_false_iff, beq_eq_false_iff_ne, ne_eq] at hbad
      refine ⟨hbad.1, fun e => ?_⟩
      rcases hbad.2 with h | h
      · exact absurd e h
      · exact h
    clear hbad
    obtain ⟨⟨ha1, ha3⟩, hab⟩ := hacts
    have HAB := Lib.hid hab
    clear hab
    obtain ⟨j, hj⟩ : ∃ j : Nat, aa = (j : Int) + 1 := ⟨(aa - 1).toNat, by omega⟩
    subst hj
    have hj3 : j < ln.length := by omega
    obtain ⟨b, off, s, An, nn, cn, l, rfl, hb1, hpj, hrow, q0, q1, q2, q3, q4, q5, q6, q7, q8, q9⟩ := (HL.out.below B3.out (Nat.le_refl _)).at_ hj3
    obtain rfl : l.length = nn := hrow.1
    have hbw : b < w3.heap.size := by omega
    have HPJ := Lib.hid hpj
    have HR3 := Lib.hid hrow
    have HB3 : Hid (Below w.heap.size w w3) := Lib.hid B3.out
    have hnode : nodeN ln ((j : Int) + 1) = ⟨s, l⟩ := by
      unfold nodeN
      rw [show ((j : Int) + 1 - 1).toNat = j by omega, List.getD_eq_getElem?_getD, hpj]; rfl
    have HND := Lib.hid hnode
    have hlj : l.length ≤ 90 := (HN.out j _ hpj).1.len
    clear hpj hrow hnode
    obtain ⟨r, hr⟩ : ∃ r, r = callN lp ⟨s, l⟩ ⟨ak, (j : Int) + 1, ab, m⟩ := ⟨_, rfl⟩
    have HR := Lib.hid hr
    clear hr
    have cey := Xy3.out.cell
    have fzy := Xy3.out.frozen
    have lby := Xy3.out.lt
    have cex := Xx3.out.cell
    have fzx := Xx3.out.frozen
    have lbx := Xx3.out.lt
    go_upto_region 10 with fail
    obtain ⟨w4, hnw4⟩ : ∃ q, q = w3.alloc (.cells #[.int .i64 s.me, .int .i64 s.round, .int .i64 s.step, .int .i64 s.lv, .int .i64 s.lr, .int .i64 s.vv, .int .i64 s.vr, .int .i64 s.polka, .int .i64 s.dec, .slice An l.length cn] 79) := ⟨_, rfl⟩
    rw [← hnw4]
    have C : Chg 0 0 w3 w4 := by rw [hnw4]; exact (Chg.refl _ _ _).alloc _
    have huw4 : w3.heap.size + 1 ≤ w4.heap.size := by rw [hnw4]; simp
    have hvw4 : w4.heap.size ≤ w3.heap.size + 1 := by rw [hnw4]; simp
    have hblk : Blk w4 w3.heap.size 79 #[.int .i64 s.me, .int .i64 s.round, .int .i64 s.step, .int .i64 s.lv, .int .i64 s.lr, .int .i64 s.vv, .int .i64 s.vr, .int .i64 s.polka, .int .i64 s.dec, .slice An l.length cn] := by rw [hnw4]; exact heap_alloc_new w3 _
    clear hnw4
    clear cey fzy
    clear cex fzx
    clear lby
    clear lbx
    have hs4 := C.size
    have B4 : Hid (Below w.heap.size w w4) := Lib.hid (B3.out.trans (C.under (B := w.heap.size) (by omega) (by omega)))
    clear B3
    have Xx4 : Hid (Blk w4 w.heap.size 27 #[.slice (some ⟨b, off, none⟩) ln.length c, .slice P lp.length d]) := Lib.hid ((C.block _ Xx3.out.lt (by omega)).trans Xx3.out)
    clear Xx3
    have Xy4 : Hid (Blk w4 (w.heap.size + 1) 51 #[.int .i64 ak, .int .i64 ((j : Int) + 1), .int .i64 ab, .int .i64 m.k, .int .i64 m.r, .int .i64 m.v, .int .i64 m.p, .int .i64 m.f]) := Lib.hid ((C.block _ Xy3.out.lt (by omega)).trans Xy3.out)
    clear Xy3
    have Xr4 : Hid (Blk w4 (w.heap.size + 1 + 1) 27 #[.slice none 0 0, .slice none 0 0]) := Lib.hid ((C.block _ Xr3.out.lt (by omega)).trans Xr3.out)
    clear Xr3
    have Xo4 : Hid (Blk w4 w1.heap.size 27 #[.slice A1 ln.length c1, .slice P1 lp.length d1]) := Lib.hid ((C.block _ Xo3.out.lt (by omega)).trans Xo3.out)
    clear Xo3
    have On4 := Lib.hid (On3.out.chg C (by omega))
    clear On3
    have Op4 := Lib.hid (Op3.out.chg C (by omega))
    clear Op3
    have Xn4 := Lib.hid hblk
    clear hblk C
    clear q0 q1 q2 q3 q4 q5 q6 q7 q8 q9
    have cey := Xy4.out.cell
    have fzy := Xy4.out.frozen
    have lby := Xy4.out.lt
    go_upto_block 0 with fail
    obtain ⟨w5, hw5⟩ : ∃ q, q = w4.alloc (.cells #[] 49) := ⟨_, rfl⟩
    rw [← hw5]
    have C : Chg 0 0 w4 w5 := by rw [hw5]; exact (Chg.refl _ _ _).alloc _
    clear hw5
    clear cey fzy
    clear lby
    have hs5 := C.size
    have B5 : Hid (Below w.heap.size w w5) := Lib.hid (B4.out.trans (C.under (B := w.heap.size) (by omega) (by omega)))
    clear B4
    have Xx5 : Hid (Blk w5 w.heap.size 27 #[.slice (some ⟨b, off, none⟩) ln.length c, .slice P lp.length d]) := Lib.hid ((C.block _ Xx4.out.lt (by omega)).trans Xx4.out)
    clear Xx4
    have Xy5 : Hid (Blk w5 (w.heap.size + 1) 51 #[.int .i64 ak, .int .i64 ((j : Int) + 1), .int .i64 ab, .int .i64 m.k, .int .i64 m.r, .int .i64 m.v, .int .i64 m.p, .int .i64 m.f]) := Lib.hid ((C.block _ Xy4.out.lt (by omega)).trans Xy4.out)
    clear Xy4
    have Xr5 : Hid (Blk w5 (w.heap.size + 1 + 1) 27 #[.slice none 0 0, .slice none 0 0]) := Lib.hid ((C.block _ Xr4.out.lt (by omega)).trans Xr4.out)
    clear Xr4
    have Xo5 : Hid (Blk w5 w1.heap.size 27 #[.slice A1 ln.length c1, .slice P1 lp.length d1]) := Lib.hid ((C.block _ Xo4.out.lt (by omega)).trans Xo4.out)
    clear Xo4
    have Xn5 : Hid (Blk w5 w3.heap.size 79 #[.int .i64 s.me, .int .i64 s.round, .int .i64 s.step, .int .i64 s.lv, .int .i64 s.lr, .int .i64 s.vv, .int .i64 s.vr, .int .i64 s.polka, .int .i64 s.dec, .slice An l.length cn]) := Lib.hid ((C.block _ Xn4.out.lt (by omega)).trans Xn4.out)
    clear Xn4
    have On5 := Lib.hid (On4.out.chg C (by omega))
    clear On4
    have Op5 := Lib.hid (Op4.out.chg C (by omega))
    clear Op4
    clear C
    have HQ5 : Hid (RdL msgC 5 w5 w.heap.size An l.length cn l) := Lib.hid (HR3.out.keep fun b o hb => (B5.out.cell (p := ⟨b, o, none⟩) hb).trans (HB3.out.cell (p := ⟨b, o, none⟩) hb).symm)
    have HRJ5 := Lib.hid (HQ5.out.more B5.out.size)
    go_cut [8, 9] (fun s8 s9 wx => s9 = .bool r.2 ∧ (r.2 = true → ∃ A7 c7 B7 d7, s8 = .slice B7 r.1.o.length d7 ∧ Blk wx w3.heap.size 79 #[.int .i64 r.1.s.me, .int .i64 r.1.s.round, .int .i64 r.1.s.step, .int .i64 r.1.s.lv, .int .i64 r.1.s.lr, .int .i64 r.1.s.vv, .int .i64 r.1.s.vr, .int .i64 r.1.s.polka, .int .i64 r.1.s.dec, .slice A7 r.1.l.length c7] ∧ OwnL msgC 5 49 wx w5.heap.size wx.heap.size A7 r.1.l.length c7 r.1.l ∧ OwnL msgC 5 49 wx w5.heap.size wx.heap.size B7 r.1.o.length d7 r.1.o) ∧ Chg w3.heap.size (w3.heap.size + 1) w5 wx)
    case first =>
      cases e1 : (ak == 1)
      · cases e2 : (ak == 2)
        · cases e3 : (ak == 3)
          · have hr2 : r.2 = false := by rw [HR.out]; simp [callN, e1, e2, e3]
            have HR2 := Lib.hid hr2
            clear hr2
            have cey := Xy5.out.cell
            have fzy := Xy5.out.frozen
            have lby := Xy5.out.lt
            have cen := Xn5.out.cell
            have fzn := Xn5.out.frozen
            have lbn := Xn5.out.lt
            go_wp2_with fail
            go_meet
            refine ⟨by first | (rw [HR2.out]; done) | (simp [HR2.out]; done), ?_, Chg.refl _ _ _⟩
            first | trivial | (intro h; rw [HR2.out] at h; cases h)
          · have HRG : Hid (timeN s l ab = r) := Lib.hid (by rw [HR.out]; simp [callN, e1, e2, e3])
            have cey := Xy5.out.cell
            have fzy := Xy5.out.frozen
            have lby := Xy5.out.lt
            have cen := Xn5.out.cell
            have fzn := Xn5.out.frozen
            have lbn := Xn5.out.lt
            go_wp2_with fail
            refine (NodeTime_any s An cn l ab _ HRJ5.out).mono ?_
            rintro e w6 ⟨A7, c7, B7, d7, he, hrr, hkk⟩
            rw [HRG.out] at he hrr
            subst he
            have hb6 := hkk.below fun q h => h
            have hs6 := hkk.size
            have HN6 : Hid (Blk w6 w3.heap.size 79 #[.int .i64 s.me, .int .i64 s.round, .int .i64 s.step, .int .i64 s.lv, .int .i64 s.lr, .int .i64 s.vv, .int .i64 s.vr, .int .i64 s.polka, .int .i64 s.dec, .slice An l.length cn]) := Lib.hid (Xn5.out.below hb6 Xn5.out.lt)
            have H7 := Lib.hid (hrr.msgs hs6)
            have H8 := Lib.hid (hrr.sent hs6)
            have HB6 := Lib.hid hb6
            clear hkk hrr hb6
            clear cey fzy
            clear cen fzn
            clear lby
            clear lbn
            have cen := HN6.out.cell
            have fzn := HN6.out.frozen
            have lbn := HN6.out.lt
            go_wp2_with fail
            go_meet
            have D := fill10_chg w6 w3.heap.size (.int .i64 r.1.s.me) (.int .i64 r.1.s.round) (.int .i64 r.1.s.step) (.int .i64 r.1.s.lv) (.int .i64 r.1.s.lr) (.int .i64 r.1.s.vv) (.int .i64 r.1.s.vr) (.int .i64 r.1.s.polka) (.int .i64 r.1.s.dec) (.slice A7 r.1.l.length c7)
            exact ⟨rfl, fun _ => ⟨A7, c7, B7, d7, rfl, HN6.out.fill10, (H7.out.chg D (.inr (by omega))).wide (Nat.le_refl _) D.size, (H8.out.chg D (.inr (by omega))).wide (Nat.le_refl _) D.size⟩, (Chg.of_below HB6.out).trans D⟩
        · have hab2 := HAB.out (by simpa using e2)
          obtain ⟨i, hi5⟩ : ∃ i : Nat, ab = (i : Int) := ⟨ab.toNat, by omega⟩
          subst hi5
          have hip : i < lp.length := by omega
          obtain ⟨pb, po, p, hPe, hpb', hpp, pk0, pk1, pk2, pk3, pk4⟩ := msg_cells (HP.out.below B5.out (Nat.le_refl _)) hip
          subst hPe
          have hpb : pb < w5.heap.size := by omega
          have HRG : Hid (getN s l p = r) := Lib.hid (by
            have hg : lp.getD i zeroM = p := by rw [List.getD_eq_getElem?_getD, hpp]; rfl
            rw [HR.out]
            simp only [callN, e1, e2, if_true, Bool.false_eq_true, if_false, Int.toNat_natCast]
            rw [hg])
          clear hpp
          have cey := Xy5.out.cell
          have fzy := Xy5.out.frozen
          have lby := Xy5.out.lt
          have cex := Xx5.out.cell
          have fzx := Xx5.out.frozen
          have lbx := Xx5.out.lt
          go_upto_region 16 with fail
          refine wp_region_seq [0, 1, 2, 3, 4, 5, 6, 7, 8, 9, 10, 11, 12, 13] (fun S wx => Chg w3.heap.size (w3.heap.size + 1) w5 wx ∧ (12 ∈ S ∨ Blk wx w3.heap.size 79 #[.int .i64 s.me, .int .i64 s.round, .int .i64 s.step, .int .i64 s.lv, .int .i64 s.lr, .int .i64 s.vv, .int .i64 s.vr, .int .i64 s.polka, .int .i64 s.dec, .slice An l.length cn])) (fun j wa wb => match j with | 12 => BoxTurn 79 wa wb | _ => Below wa.heap.size wa wb) (fun ii b wx => match ii with
            | 0 => b.tmps.getD 90 undef = .agg #[.int .i64 s.me, .int .i64 s.round, .int .i64 s.step, .int .i64 s.lv, .int .i64 s.lr, .int .i64 s.vv, .int .i64 s.vr, .int .i64 s.polka, .int .i64 s.dec, .slice An l.length cn]
            | 1 => b.tmps.getD 91 undef = .pointer (some ⟨w.heap.size, 1, none⟩)
            | 2 => b.tmps.getD 92 undef = .slice (some ⟨pb, po, none⟩) lp.length d
            | 3 => b.tmps.getD 93 undef = .pointer (some ⟨(w.heap.size + 1), 2, none⟩)
            | 4 => b.tmps.getD 94 undef = .int .i64 (i : Int)
            | 5 => b.tmps.getD 95 undef = .pointer (some ⟨pb, po + i * 5, none⟩)
            | 6 => b.tmps.getD 96 undef = .agg #[.int .i64 p.k, .int .i64 p.r, .int .i64 p.v, .int .i64 p.p, .int .i64 p.f]
            | 7 => ∃ (A1 : Option Addr) (c1 : Nat) (B1 : Option Addr) (d1 : Nat), b.tmps.getD 97 undef = .tuple #[.agg #[.int .i64 r.1.s.me, .int .i64 r.1.s.round, .int .i64 r.1.s.step, .int .i64 r.1.s.lv, .int .i64 r.1.s.lr, .int .i64 r.1.s.vv, .int .i64 r.1.s.vr, .int .i64 r.1.s.polka, .int .i64 r.1.s.dec, .slice A1 r.1.l.length c1], .slice B1 r.1.o.length d1, .bool r.2] ∧ Rows wx (fun q => q < w5.heap.size) A1 c1 B1 d1 r.1
            | 8 => ∃ (A1 : Option Addr) (c1 : Nat) (B1 : Option Addr) (d1 : Nat), b.tmps.getD 89 undef = .tuple #[.agg #[.int .i64 r.1.s.me, .int .i64 r.1.s.round, .int .i64 r.1.s.step, .int .i64 r.1.s.lv, .int .i64 r.1.s.lr, .int .i64 r.1.s.vv, .int .i64 r.1.s.vr, .int .i64 r.1.s.polka, .int .i64 r.1.s.dec, .slice A1 r.1.l.length c1], .slice B1 r.1.o.length d1, .bool r.2] ∧ Rows wx (fun q => q < w5.heap.size) A1 c1 B1 d1 r.1
            | 9 => ∃ (A1 : Option Addr) (c1 : Nat), b.tmps.getD 98 undef = .agg #[.int .i64 r.1.s.me, .int .i64 r.1.s.round, .int .i64 r.1.s.step, .int .i64 r.1.s.lv, .int .i64 r.1.s.lr, .int .i64 r.1.s.vv, .int .i64 r.1.s.vr, .int .i64 r.1.s.polka, .int .i64 r.1.s.dec, .slice A1 r.1.l.length c1] ∧ OwnL msgC 5 49 wx w5.heap.size wx.heap.size A1 r.1.l.length c1 r.1.l
            | 10 => ∃ (B1 : Option Addr) (d1 : Nat), b.tmps.getD 99 undef = .slice B1 r.1.o.length d1 ∧ OwnL msgC 5 49 wx w5.heap.size wx.heap.size B1 r.1.o.length d1 r.1.o
            | 11 => b.tmps.getD 100 undef = .bool r.2
            | 12 => ∃ (A1 : Option Addr) (c1 : Nat), Blk wx w3.heap.size 79 #[.int .i64 r.1.s.me, .int .i64 r.1.s.round, .int .i64 r.1.s.step, .int .i64 r.1.s.lv, .int .i64 r.1.s.lr, .int .i64 r.1.s.vv, .int .i64 r.1.s.vr, .int .i64 r.1.s.polka, .int .i64 r.1.s.dec, .slice A1 r.1.l.length c1] ∧ OwnL msgC 5 49 wx w5.heap.size wx.heap.size A1 r.1.l.length c1 r.1.l
            | 13 => ∃ (B1 : Option Addr) (d1 : Nat), b.tmps.getD 8 undef = .slice B1 r.1.o.length d1 ∧ OwnL msgC 5 49 wx w5.heap.size wx.heap.size B1 r.1.o.length d1 r.1.o
            | _ => True) (by kernel_rfl) (coreB2_ok (by kernel_rfl)) ⟨(Chg.refl _ _ _).drew, .inr (show Blk _ _ _ _ from Xn5.out.drew)⟩ ?_ ?_ ?_
          · intro b wa wb i7 j7 oj v hi hj hij hoj hdep hE h
            simp only [List.mem_cons, List.not_mem_nil, or_false] at hi hj
            rcases hj with rfl | rfl | rfl | rfl | rfl | rfl | rfl | rfl | rfl | rfl | rfl | rfl | rfl | rfl
            all_goals obtain rfl := Option.some.inj hoj
            · rcases hi with rfl | rfl | rfl | rfl | rfl | rfl | rfl | rfl | rfl | rfl | rfl | rfl | rfl | rfl
              all_goals first | exact absurd rfl hij | exact trivial | (simp only at hE h ⊢; (first | exact trivial | exact getk' h (by decide) | (obtain ⟨A1, c1, B1, d1, e, h⟩ := h; exact ⟨A1, c1, B1, d1, getk' e (by decide), h.below hE⟩) | (obtain ⟨A1, c1, e, h⟩ := h; exact ⟨A1, c1, getk' e (by decide), (h.below hE (Nat.le_refl _)).wide (Nat.le_refl _) hE.size⟩) | (obtain ⟨A1, c1, h3, h⟩ := h; exact ⟨A1, c1, h3.below hE h3.lt, (h.below hE (Nat.le_refl _)).wide (Nat.le_refl _) hE.size⟩))) | exact absurd rfl (hdep _ rfl ⟨0, .data⟩ (by simp) rfl)
            · rcases hi with rfl | rfl | rfl | rfl | rfl | rfl | rfl | rfl | rfl | rfl | rfl | rfl | rfl | rfl
              all_goals first | exact absurd rfl hij | exact trivial | (simp only at hE h ⊢; (first | exact trivial | exact getk' h (by decide) | (obtain ⟨A1, c1, B1, d1, e, h⟩ := h; exact ⟨A1, c1, B1, d1, getk' e (by decide), h.below hE⟩) | (obtain ⟨A1, c1, e, h⟩ := h; exact ⟨A1, c1, getk' e (by decide), (h.below hE (Nat.le_refl _)).wide (Nat.le_refl _) hE.size⟩) | (obtain ⟨A1, c1, h3, h⟩ := h; exact ⟨A1, c1, h3.below hE h3.lt, (h.below hE (Nat.le_refl _)).wide (Nat.le_refl _) hE.size⟩))) | exact absurd rfl (hdep _ rfl ⟨1, .data⟩ (by simp) rfl)
            · rcases hi with rfl | rfl | rfl | rfl | rfl | rfl | rfl | rfl | rfl | rfl | rfl | rfl | rfl | rfl
              all_goals first | exact absurd rfl hij | exact trivial | (simp only at hE h ⊢; (first | exact trivial | exact getk' h (by decide) | (obtain ⟨A1, c1, B1, d1, e, h⟩ := h; exact ⟨A1, c1, B1, d1, getk' e (by decide), h.below hE⟩) | (obtain ⟨A1, c1, e, h⟩ := h; exact ⟨A1, c1, getk' e (by decide), (h.below hE (Nat.le_refl _)).wide (Nat.le_refl _) hE.size⟩) | (obtain ⟨A1, c1, h3, h⟩ := h; exact ⟨A1, c1, h3.below hE h3.lt, (h.below hE (Nat.le_refl _)).wide (Nat.le_refl _) hE.size⟩))) | exact absurd rfl (hdep _ rfl ⟨2, .data⟩ (by simp) rfl)
            · rcases hi with rfl | rfl | rfl | rfl | rfl | rfl | rfl | rfl | rfl | rfl | rfl | rfl | rfl | rfl
              all_goals first | exact absurd rfl hij | exact trivial | (simp only at hE h ⊢; (first | exact trivial | exact getk' h (by decide) | (obtain ⟨A1, c1, B1, d1, e, h⟩ := h; exact ⟨A1, c1, B1, d1, getk' e (by decide), h.below hE⟩) | (obtain ⟨A1, c1, e, h⟩ := h; exact ⟨A1, c1, getk' e (by decide), (h.below hE (Nat.le_refl _)).wide (Nat.le_refl _) hE.size⟩) | (obtain ⟨A1, c1, h3, h⟩ := h; exact ⟨A1, c1, h3.below hE h3.lt, (h.below hE (Nat.le_refl _)).wide (Nat.le_refl _) hE.size⟩))) | exact absurd rfl (hdep _ rfl ⟨3, .data⟩ (by simp) rfl)
            · rcases hi with rfl | rfl | rfl | rfl | rfl | rfl | rfl | rfl | rfl | rfl | rfl | rfl | rfl | rfl
              all_goals first | exact absurd rfl hij | exact trivial | (simp only at hE h ⊢; (first | exact trivial | exact getk' h (by decide) | (obtain ⟨A1, c1, B1, d1, e, h⟩ := h; exact ⟨A1, c1, B1, d1, getk' e (by decide), h.below hE⟩) | (obtain ⟨A1, c1, e, h⟩ := h; exact ⟨A1, c1, getk' e (by decide), (h.below hE (Nat.le_refl _)).wide (Nat.le_refl _) hE.size⟩) | (obtain ⟨A1, c1, h3, h⟩ := h; exact ⟨A1, c1, h3.below hE h3.lt, (h.below hE (Nat.le_refl _)).wide (Nat.le_refl _) hE.size⟩))) | exact absurd rfl (hdep _ rfl ⟨4, .data⟩ (by simp) rfl)
            · rcases hi with rfl | rfl | rfl | rfl | rfl | rfl | rfl | rfl | rfl | rfl | rfl | rfl | rfl | rfl
              all_goals first | exact absurd rfl hij | exact trivial | (simp only at hE h ⊢; (first | exact trivial | exact getk' h (by decide) | (obtain ⟨A1, c1, B1, d1, e, h⟩ := h; exact ⟨A1, c1, B1, d1, getk' e (by decide), h.below hE⟩) | (obtain ⟨A1, c1, e, h⟩ := h; exact ⟨A1, c1, getk' e (by decide), (h.below hE (Nat.le_refl _)).wide (Nat.le_refl _) hE.size⟩) | (obtain ⟨A1, c1, h3, h⟩ := h; exact ⟨A1, c1, h3.below hE h3.lt, (h.below hE (Nat.le_refl _)).wide (Nat.le_refl _) hE.size⟩))) | exact absurd rfl (hdep _ rfl ⟨5, .data⟩ (by simp) rfl)
            · rcases hi with rfl | rfl | rfl | rfl | rfl | rfl | rfl | rfl | rfl | rfl | rfl | rfl | rfl | rfl
              all_goals first | exact absurd rfl hij | exact trivial | (simp only at hE h ⊢; (first | exact trivial | exact getk' h (by decide) | (obtain ⟨A1, c1, B1, d1, e, h⟩ := h; exact ⟨A1, c1, B1, d1, getk' e (by decide), h.below hE⟩) | (obtain ⟨A1, c1, e, h⟩ := h; exact ⟨A1, c1, getk' e (by decide), (h.below hE (Nat.le_refl _)).wide (Nat.le_refl _) hE.size⟩) | (obtain ⟨A1, c1, h3, h⟩ := h; exact ⟨A1, c1, h3.below hE h3.lt, (h.below hE (Nat.le_refl _)).wide (Nat.le_refl _) hE.size⟩))) | exact absurd rfl (hdep _ rfl ⟨6, .data⟩ (by simp) rfl)
            · rcases hi with rfl | rfl | rfl | rfl | rfl | rfl | rfl | rfl | rfl | rfl | rfl | rfl | rfl | rfl
              all_goals first | exact absurd rfl hij | exact trivial | (simp only at hE h ⊢; (first | exact trivial | exact getk' h (by decide) | (obtain ⟨A1, c1, B1, d1, e, h⟩ := h; exact ⟨A1, c1, B1, d1, getk' e (by decide), h.below hE⟩) | (obtain ⟨A1, c1, e, h⟩ := h; exact ⟨A1, c1, getk' e (by decide), (h.below hE (Nat.le_refl _)).wide (Nat.le_refl _) hE.size⟩) | (obtain ⟨A1, c1, h3, h⟩ := h; exact ⟨A1, c1, h3.below hE h3.lt, (h.below hE (Nat.le_refl _)).wide (Nat.le_refl _) hE.size⟩))) | exact absurd rfl (hdep _ rfl ⟨7, .data⟩ (by simp) rfl)
            · rcases hi with rfl | rfl | rfl | rfl | rfl | rfl | rfl | rfl | rfl | rfl | rfl | rfl | rfl | rfl
              all_goals first | exact absurd rfl hij | exact trivial | (simp only at hE h ⊢; (first | exact trivial | exact getk' h (by decide) | (obtain ⟨A1, c1, B1, d1, e, h⟩ := h; exact ⟨A1, c1, B1, d1, getk' e (by decide), h.below hE⟩) | (obtain ⟨A1, c1, e, h⟩ := h; exact ⟨A1, c1, getk' e (by decide), (h.below hE (Nat.le_refl _)).wide (Nat.le_refl _) hE.size⟩) | (obtain ⟨A1, c1, h3, h⟩ := h; exact ⟨A1, c1, h3.below hE h3.lt, (h.below hE (Nat.le_refl _)).wide (Nat.le_refl _) hE.size⟩))) | exact absurd rfl (hdep _ rfl ⟨8, .data⟩ (by simp) rfl)
            · rcases hi with rfl | rfl | rfl | rfl | rfl | rfl | rfl | rfl | rfl | rfl | rfl | rfl | rfl | rfl
              all_goals first | exact absurd rfl hij | exact trivial | (simp only at hE h ⊢; (first | exact trivial | exact getk' h (by decide) | (obtain ⟨A1, c1, B1, d1, e, h⟩ := h; exact ⟨A1, c1, B1, d1, getk' e (by decide), h.below hE⟩) | (obtain ⟨A1, c1, e, h⟩ := h; exact ⟨A1, c1, getk' e (by decide), (h.below hE (Nat.le_refl _)).wide (Nat.le_refl _) hE.size⟩) | (obtain ⟨A1, c1, h3, h⟩ := h; exact ⟨A1, c1, h3.below hE h3.lt, (h.below hE (Nat.le_refl _)).wide (Nat.le_refl _) hE.size⟩))) | exact absurd rfl (hdep _ rfl ⟨9, .data⟩ (by simp) rfl)
            · rcases hi with rfl | rfl | rfl | rfl | rfl | rfl | rfl | rfl | rfl | rfl | rfl | rfl | rfl | rfl
              all_goals first | exact absurd rfl hij | exact trivial | (simp only at hE h ⊢; (first | exact trivial | exact getk' h (by decide) | (obtain ⟨A1, c1, B1, d1, e, h⟩ := h; exact ⟨A1, c1, B1, d1, getk' e (by decide), h.below hE⟩) | (obtain ⟨A1, c1, e, h⟩ := h; exact ⟨A1, c1, getk' e (by decide), (h.below hE (Nat.le_refl _)).wide (Nat.le_refl _) hE.size⟩) | (obtain ⟨A1, c1, h3, h⟩ := h; exact ⟨A1, c1, h3.below hE h3.lt, (h.below hE (Nat.le_refl _)).wide (Nat.le_refl _) hE.size⟩))) | exact absurd rfl (hdep _ rfl ⟨10, .data⟩ (by simp) rfl)
            · rcases hi with rfl | rfl | rfl | rfl | rfl | rfl | rfl | rfl | rfl | rfl | rfl | rfl | rfl | rfl
              all_goals first | exact absurd rfl hij | exact trivial | (simp only at hE h ⊢; (first | exact trivial | exact getk' h (by decide) | (obtain ⟨A1, c1, B1, d1, e, h⟩ := h; exact ⟨A1, c1, B1, d1, getk' e (by decide), h.below hE⟩) | (obtain ⟨A1, c1, e, h⟩ := h; exact ⟨A1, c1, getk' e (by decide), (h.below hE (Nat.le_refl _)).wide (Nat.le_refl _) hE.size⟩) | (obtain ⟨A1, c1, h3, h⟩ := h; exact ⟨A1, c1, h3.below hE h3.lt, (h.below hE (Nat.le_refl _)).wide (Nat.le_refl _) hE.size⟩))) | exact absurd rfl (hdep _ rfl ⟨11, .data⟩ (by simp) rfl)
            · rcases hi with rfl | rfl | rfl | rfl | rfl | rfl | rfl | rfl | rfl | rfl | rfl | rfl | rfl | rfl
              all_goals first | exact absurd rfl hij | exact trivial | (simp only at hE h ⊢; (first | exact trivial | exact getk' h (by decide) | (obtain ⟨A1, c1, B1, d1, e, h⟩ := h; exact ⟨A1, c1, B1, d1, getk' e (by decide), h.turn' hE⟩) | (obtain ⟨A1, c1, e, h⟩ := h; exact ⟨A1, c1, getk' e (by decide), hE.row (by decide) h⟩) | (obtain ⟨A1, c1, h3, h⟩ := h; exact ⟨A1, c1, h3, hE.row (by decide) h⟩))) | exact absurd rfl (hdep _ rfl ⟨12, .data⟩ (by simp) rfl)
            · rcases hi with rfl | rfl | rfl | rfl | rfl | rfl | rfl | rfl | rfl | rfl | rfl | rfl | rfl | rfl
              all_goals first | exact absurd rfl hij | exact trivial | (simp only at hE h ⊢; (first | exact trivial | exact getk' h (by decide) | (obtain ⟨A1, c1, B1, d1, e, h⟩ := h; exact ⟨A1, c1, B1, d1, getk' e (by decide), h.below hE⟩) | (obtain ⟨A1, c1, e, h⟩ := h; exact ⟨A1, c1, getk' e (by decide), (h.below hE (Nat.le_refl _)).wide (Nat.le_refl _) hE.size⟩) | (obtain ⟨A1, c1, h3, h⟩ := h; exact ⟨A1, c1, h3.below hE h3.lt, (h.below hE (Nat.le_refl _)).wide (Nat.le_refl _) hE.size⟩))) | exact absurd rfl (hdep _ rfl ⟨13, .data⟩ (by simp) rfl)
          · intro S j7 o hj hjS hcl ho a' w' hC hsame hdep
            have hz : w5.heap.size ≤ w'.heap.size := hC.1.size
            simp only [List.mem_cons, List.not_mem_nil, or_false] at hj
            rcases hj with rfl | rfl | rfl | rfl | rfl | rfl | rfl | rfl | rfl | rfl | rfl | rfl | rfl | rfl
            all_goals obtain rfl := Option.some.inj ho
            · have hs : a'.tmps.getD 7 undef = .pointer (some ⟨w3.heap.size, 0, none⟩) := hsame 7 (by rfl)
              have zb : Blk w' w3.heap.size 79 #[.int .i64 s.me, .int .i64 s.round, .int .i64 s.step, .int .i64 s.lv, .int .i64 s.lr, .int .i64 s.vv, .int .i64 s.vr, .int .i64 s.polka, .int .i64 s.dec, .slice An l.length cn] := hC.2.resolve_left fun h => hjS (hcl 12 _ h rfl ⟨0, .phase⟩ (by simp) rfl)
              have zz := zb.cell
              refine wp_val (w2 := w') (.agg #[.int .i64 s.me, .int .i64 s.round, .int .i64 s.step, .int .i64 s.lv, .int .i64 s.lr, .int .i64 s.vv, .int .i64 s.vr, .int .i64 s.polka, .int .i64 s.dec, .slice An l.length cn]) (fun K hK => ?_) ⟨_, rfl, ⟨hC.1, hC.2.imp (List.mem_cons_of_mem _) id⟩, Below.refl _ _, fun b hb hb2 => hb 90 rfl⟩
              clear hsame hdep zb
              unfold Oper.wp
              simp [execOp, Act.eval, go_sem, hs, zz]
              exact hK
            · have hs : a'.tmps.getD 2 undef = .pointer (some ⟨w.heap.size, 0, none⟩) := hsame 2 (by rfl)
              refine wp_val (w2 := w') (.pointer (some ⟨w.heap.size, 1, none⟩)) (fun K hK => ?_) ⟨_, rfl, ⟨hC.1, hC.2.imp (List.mem_cons_of_mem _) id⟩, Below.refl _ _, fun b hb hb2 => hb 91 rfl⟩
              clear hsame hdep
              unfold Oper.wp
              simp [execOp, Act.eval, go_sem, hs]
              exact hK
            · have e1 : a'.tmps.getD 91 undef = .pointer (some ⟨w.heap.size, 1, none⟩) := hdep ⟨1, .data⟩ (by simp) rfl
              have zz : ∀ o, w'.cell? ⟨w.heap.size, o, none⟩ = _ := fun o => (hC.1.cell (k := w.heap.size) lbx (by omega)).trans (cex o)
              refine wp_val (w2 := w') (.slice (some ⟨pb, po, none⟩) lp.length d) (fun K hK => ?_) ⟨_, rfl, ⟨hC.1, hC.2.imp (List.mem_cons_of_mem _) id⟩, Below.refl _ _, fun b hb hb2 => hb 92 rfl⟩
              clear hsame hdep
              unfold Oper.wp
              simp [execOp, Act.eval, go_sem, e1, zz]
              exact hK
            · have hs : a'.tmps.getD 3 undef = .pointer (some ⟨(w.heap.size + 1), 0, none⟩) := hsame 3 (by rfl)
              refine wp_val (w2 := w') (.pointer (some ⟨(w.heap.size + 1), 2, none⟩)) (fun K hK => ?_) ⟨_, rfl, ⟨hC.1, hC.2.imp (List.mem_cons_of_mem _) id⟩, Below.refl _ _, fun b hb hb2 => hb 93 rfl⟩
              clear hsame hdep
              unfold Oper.wp
              simp [execOp, Act.eval, go_sem, hs]
              exact hK
            · have e1 : a'.tmps.getD 93 undef = .pointer (some ⟨(w.heap.size + 1), 2, none⟩) := hdep ⟨3, .data⟩ (by simp) rfl
              have zz : ∀ o, w'.cell? ⟨(w.heap.size + 1), o, none⟩ = _ := fun o => (hC.1.cell (k := (w.heap.size + 1)) lby (by omega)).trans (cey o)
              refine wp_val (w2 := w') (.int .i64 (i : Int)) (fun K hK => ?_) ⟨_, rfl, ⟨hC.1, hC.2.imp (List.mem_cons_of_mem _) id⟩, Below.refl _ _, fun b hb hb2 => hb 94 rfl⟩
              clear hsame hdep
              unfold Oper.wp
              simp [execOp, Act.eval, go_sem, e1, zz]
              exact hK
            · have e1 : a'.tmps.getD 92 undef = .slice (some ⟨pb, po, none⟩) lp.length d := hdep ⟨2, .data⟩ (by simp) rfl
              have e2 : a'.tmps.getD 94 undef = .int .i64 (i : Int) := hdep ⟨4, .data⟩ (by simp) rfl
              refine wp_val (w2 := w') (.pointer (some ⟨pb, po + i * 5, none⟩)) (fun K hK => ?_) ⟨_, rfl, ⟨hC.1, hC.2.imp (List.mem_cons_of_mem _) id⟩, Below.refl _ _, fun b hb hb2 => hb 95 rfl⟩
              clear hsame hdep
              unfold Oper.wp
              simp [execOp, Act.eval, go_sem, e1, e2, hip]
              exact hK
            · have e1 : a'.tmps.getD 95 undef = .pointer (some ⟨pb, po + i * 5, none⟩) := hdep ⟨5, .data⟩ (by simp) rfl
              have k0 := (hC.1.cell (k := pb) hpb (by omega)).trans pk0
              have k1 := (hC.1.cell (k := pb) hpb (by omega)).trans pk1
              have k2 := (hC.1.cell (k := pb) hpb (by omega)).trans pk2
              have k3 := (hC.1.cell (k := pb) hpb (by omega)).trans pk3
              have k4 := (hC.1.cell (k := pb) hpb (by omega)).trans pk4
              refine wp_val (w2 := w') (.agg #[.int .i64 p.k, .int .i64 p.r, .int .i64 p.v, .int .i64 p.p, .int .i64 p.f]) (fun K hK => ?_) ⟨_, rfl, ⟨hC.1, hC.2.imp (List.mem_cons_of_mem _) id⟩, Below.refl _ _, fun b hb hb2 => hb 96 rfl⟩
              clear hsame hdep
              unfold Oper.wp
              simp [execOp, Act.eval, go_sem, e1, k0, k1, k2, k3, k4]
              exact hK
            · have e1 : a'.tmps.getD 90 undef = .agg #[.int .i64 s.me, .int .i64 s.round, .int .i64 s.step, .int .i64 s.lv, .int .i64 s.lr, .int .i64 s.vv, .int .i64 s.vr, .int .i64 s.polka, .int .i64 s.dec, .slice An l.length cn] := hdep ⟨0, .data⟩ (by simp) rfl
              have e2 : a'.tmps.getD 96 undef = .agg #[.int .i64 p.k, .int .i64 p.r, .int .i64 p.v, .int .i64 p.p, .int .i64 p.f] := hdep ⟨6, .data⟩ (by simp) rfl
              have hr : RdL msgC 5 w' w'.heap.size An l.length cn l := (HQ5.out.keep fun b o hb => hC.1.cell (by omega) (.inl (by omega))).more (by omega)
              refine wp_call (fun u wq => ∃ A1 c1 B1 d1, u = .tuple #[.agg #[.int .i64 r.1.s.me, .int .i64 r.1.s.round, .int .i64 r.1.s.step, .int .i64 r.1.s.lv, .int .i64 r.1.s.lr, .int .i64 r.1.s.vv, .int .i64 r.1.s.vr, .int .i64 r.1.s.polka, .int .i64 r.1.s.dec, .slice A1 r.1.l.length c1], .slice B1 r.1.o.length d1, .bool r.2] ∧ Rows wq (fun q => q < w5.heap.size) A1 c1 B1 d1 r.1 ∧ Below w'.heap.size w' wq) (fun K hK => ?_) ?_
              · clear hsame hdep
                unfold Oper.wp
                simp [Act.eval, e1, e2, go_sem]
                refine (NodeGet_any s An cn l p _ hr).mono ?_
                rintro e w3' ⟨A7, c7, B7, d7, he, hrr, hkk⟩
                rw [HRG.out] at he hrr
                subst he
                exact hK _ _ ⟨A7, c7, B7, d7, rfl, hrr.mono fun q hq => Nat.lt_of_lt_of_le hq hz, hkk.below fun q hq => hq⟩
              · rintro u w3' ⟨A7, c7, B7, d7, rfl, hrr, hb3⟩
                refine ⟨_, rfl, ⟨hC.1.below_trans hb3, hC.2.imp (List.mem_cons_of_mem _) fun h => h.below hb3 h.lt⟩, hb3, fun b hb _ => ⟨A7, c7, B7, d7, hb 97 rfl, hrr⟩⟩
            · obtain ⟨A7, c7, B7, d7, e1, hrr⟩ := hdep ⟨7, .data⟩ (by simp) rfl
              refine wp_val (w2 := w') (.tuple #[.agg #[.int .i64 r.1.s.me, .int .i64 r.1.s.round, .int .i64 r.1.s.step, .int .i64 r.1.s.lv, .int .i64 r.1.s.lr, .int .i64 r.1.s.vv, .int .i64 r.1.s.vr, .int .i64 r.1.s.polka, .int .i64 r.1.s.dec, .slice A7 r.1.l.length c7], .slice B7 r.1.o.length d7, .bool r.2]) (fun K hK => ?_) ⟨_, rfl, ⟨hC.1, hC.2.imp (List.mem_cons_of_mem _) id⟩, Below.refl _ _, fun b hb hb2 => ⟨A7, c7, B7, d7, hb 89 rfl, hrr⟩⟩
              clear hsame hdep
              unfold Oper.wp
              simp [execOp, Act.eval, go_sem, e1]
              exact hK
            · obtain ⟨A7, c7, B7, d7, e1, hrr⟩ := hdep ⟨8, .data⟩ (by simp) rfl
              have hro := hrr.msgs hz
              refine wp_val (w2 := w') (.agg #[.int .i64 r.1.s.me, .int .i64 r.1.s.round, .int .i64 r.1.s.step, .int .i64 r.1.s.lv, .int .i64 r.1.s.lr, .int .i64 r.1.s.vv, .int .i64 r.1.s.vr, .int .i64 r.1.s.polka, .int .i64 r.1.s.dec, .slice A7 r.1.l.length c7]) (fun K hK => ?_) ⟨_, rfl, ⟨hC.1, hC.2.imp (List.mem_cons_of_mem _) id⟩, Below.refl _ _, fun b hb hb2 => ⟨A7, c7, hb 98 rfl, hro⟩⟩
              clear hsame hdep hro
              unfold Oper.wp
              simp [execOp, Act.eval, go_sem, e1]
              exact hK
            · obtain ⟨A7, c7, B7, d7, e1, hrr⟩ := hdep ⟨8, .data⟩ (by simp) rfl
              have hro := hrr.sent hz
              refine wp_val (w2 := w') (.slice B7 r.1.o.length d7) (fun K hK => ?_) ⟨_, rfl, ⟨hC.1, hC.2.imp (List.mem_cons_of_mem _) id⟩, Below.refl _ _, fun b hb hb2 => ⟨B7, d7, hb 99 rfl, hro⟩⟩
              clear hsame hdep hro
              unfold Oper.wp
              simp [execOp, Act.eval, go_sem, e1]
              exact hK
            · obtain ⟨A7, c7, B7, d7, e1, hrr⟩ := hdep ⟨8, .data⟩ (by simp) rfl
              refine wp_val (w2 := w') (.bool r.2) (fun K hK => ?_) ⟨_, rfl, ⟨hC.1, hC.2.imp (List.mem_cons_of_mem _) id⟩, Below.refl _ _, fun b hb hb2 => hb 100 rfl⟩
              clear hsame hdep
              unfold Oper.wp
              simp [execOp, Act.eval, go_sem, e1]
              exact hK
            · have hs : a'.tmps.getD 7 undef = .pointer (some ⟨w3.heap.size, 0, none⟩) := hsame 7 (by rfl)
              obtain ⟨A7, c7, e2, hro⟩ := hdep ⟨9, .data⟩ (by simp) rfl
              have zb : Blk w' w3.heap.size 79 #[.int .i64 s.me, .int .i64 s.round, .int .i64 s.step, .int .i64 s.lv, .int .i64 s.lr, .int .i64 s.vv, .int .i64 s.vr, .int .i64 s.polka, .int .i64 s.dec, .slice An l.length cn] := hC.2.resolve_left fun h => hjS h
              have zz := zb.cell
              have ff := zb.frozen
              obtain ⟨w9, hw9⟩ : ∃ z, z = ((((((((((w'.setCell ⟨w3.heap.size, 0, none⟩ (.int .i64 r.1.s.me)).setCell ⟨w3.heap.size, 1, none⟩ (.int .i64 r.1.s.round)).setCell ⟨w3.heap.size, 2, none⟩ (.int .i64 r.1.s.step)).setCell ⟨w3.heap.size, 3, none⟩ (.int .i64 r.1.s.lv)).setCell ⟨w3.heap.size, 4, none⟩ (.int .i64 r.1.s.lr)).setCell ⟨w3.heap.size, 5, none⟩ (.int .i64 r.1.s.vv)).setCell ⟨w3.heap.size, 6, none⟩ (.int .i64 r.1.s.vr)).setCell ⟨w3.heap.size, 7, none⟩ (.int .i64 r.1.s.polka)).setCell ⟨w3.heap.size, 8, none⟩ (.int .i64 r.1.s.dec)).setCell ⟨w3.heap.size, 9, none⟩ (.slice A7 r.1.l.length c7)) := ⟨_, rfl⟩
              have hchg : Chg w3.heap.size (w3.heap.size + 1) w' w9 := by rw [hw9]; exact fill10_chg _ _ _ _ _ _ _ _ _ _ _ _
              have hblk2 : Blk w9 w3.heap.size 79 #[.int .i64 r.1.s.me, .int .i64 r.1.s.round, .int .i64 r.1.s.step, .int .i64 r.1.s.lv, .int .i64 r.1.s.lr, .int .i64 r.1.s.vv, .int .i64 r.1.s.vr, .int .i64 r.1.s.polka, .int .i64 r.1.s.dec, .slice A7 r.1.l.length c7] := by rw [hw9]; exact zb.fill10
              have hturn := BoxTurn.of_blk zb hblk2 rfl hchg
              have hown := hturn.row (by decide) hro
              refine wp_val (w2 := w9) undef (fun K hK => ?_) ⟨_, rfl, ⟨hC.1.trans hchg, .inl (by simp)⟩, hturn, fun b _ hb => ⟨A7, c7, hblk2, hown⟩⟩
              rw [hw9] at hK
              clear hsame hdep hchg hblk2 hturn hown hw9 zb
              unfold Oper.wp
              simp [execOp, Act.eval, hs, e2, go_sem, zz, ff]
              exact hK
            · obtain ⟨B7, d7, e1, hro⟩ := hdep ⟨10, .data⟩ (by simp) rfl
              refine wp_val (w2 := w') (.slice B7 r.1.o.length d7) (fun K hK => ?_) ⟨_, rfl, ⟨hC.1, hC.2.imp (List.mem_cons_of_mem _) id⟩, Below.refl _ _, fun b hb hb2 => ⟨B7, d7, hb 8 rfl, hro⟩⟩
              clear hsame hdep
              unfold Oper.wp
              simp [execOp, Act.eval, go_sem, e1]
              exact hK
          · intro S a' w' _ hC ha hP
            obtain ⟨A7, c7, hbN, hoA⟩ := hP 12 (by simp)
            obtain ⟨B7, d7, e3, hoB⟩ := hP 13 (by simp)
            have e4 : a'.tmps.getD 100 undef = .bool r.2 := hP 11 (by simp)
            clear hP
            simp only [coreOps, List.filterMap_cons, List.filterMap_nil, List.getElem?_cons_zero, List.getElem?_cons_succ, fillA, slotOf, Act.put, e3, e4] at ha
            generalize a'.tmps.getD 90 undef = u90 at ha
            generalize a'.tmps.getD 91 undef = u91 at ha
            generalize a'.tmps.getD 92 undef = u92 at ha
            generalize a'.tmps.getD 93 undef = u93 at ha
            generalize a'.tmps.getD 94 undef = u94 at ha
            generalize a'.tmps.getD 95 undef = u95 at ha
            generalize a'.tmps.getD 96 undef = u96 at ha
            generalize a'.tmps.getD 97 undef = u97 at ha
            generalize a'.tmps.getD 89 undef = u89 at ha
            generalize a'.tmps.getD 98 undef = u98 at ha
            generalize a'.tmps.getD 99 undef = u99 at ha
            subst ha
            show wpAny _ _ _ _ 1 _ _ _
            refine wpAny_ready (rs := [14]) (by kernel_rfl) (by simp) ?_
            refine AllReady.cons rfl (fun K hK => ?_) AllReady.nil
            go_simp
            refine hK _ _ ?_
            clear hK K
            refine wpAny_done (by kernel_rfl) ?_ _
            go_wp2_with fail
            go_meet
            exact ⟨rfl, fun _ => ⟨A7, c7, B7, d7, rfl, hbN, hoA, hoB⟩, hC.1⟩
      · have HRG : Hid (startN s l = r) := Lib.hid (by rw [HR.out]; simp [callN, e1])
        have cey := Xy5.out.cell
        have fzy := Xy5.out.frozen
        have lby := Xy5.out.lt
        have cen := Xn5.out.cell
        have fzn := Xn5.out.frozen
        have lbn := Xn5.out.lt
        go_wp2_with fail
        refine (NodeStart_any s An cn l _ HRJ5.out).mono ?_
        rintro e w6 ⟨A7, c7, B7, d7, he, hrr, hkk⟩
        rw [HRG.out] at he hrr
        subst he
        have hb6 := hkk.below fun q h => h
        have hs6 := hkk.size
        have HN6 : Hid (Blk w6 w3.heap.size 79 #[.int .i64 s.me, .int .i64 s.round, .int .i64 s.step, .int .i64 s.lv, .int .i64 s.lr, .int .i64 s.vv, .int .i64 s.vr, .int .i64 s.polka, .int .i64 s.dec, .slice An l.length cn]) := Lib.hid (Xn5.out.below hb6 Xn5.out.lt)
        have H7 := Lib.hid (hrr.msgs hs6)
        have H8 := Lib.hid (hrr.sent hs6)
        have HB6 := Lib.hid hb6
        clear hkk hrr hb6
        clear cey fzy
        clear cen fzn
        clear lby
        clear lbn
        have cen := HN6.out.cell
        have fzn := HN6.out.frozen
        have lbn := HN6.out.lt
        go_wp2_with fail
        go_meet
        have D := fill10_chg w6 w3.heap.size (.int .i64 r.1.s.me) (.int .i64 r.1.s.round) (.int .i64 r.1.s.step) (.int .i64 r.1.s.lv) (.int .i64 r.1.s.lr) (.int .i64 r.1.s.vv) (.int .i64 r.1.s.vr) (.int .i64 r.1.s.polka) (.int .i64 r.1.s.dec) (.slice A7 r.1.l.length c7)
        exact ⟨rfl, fun _ => ⟨A7, c7, B7, d7, rfl, HN6.out.fill10, (H7.out.chg D (.inr (by omega))).wide (Nat.le_refl _) D.size, (H8.out.chg D (.inr (by omega))).wide (Nat.le_refl _) D.size⟩, (Chg.of_below HB6.out).trans D⟩
    case rest =>
    obtain ⟨rfl, hyes, C⟩ := hcut
    obtain ⟨w7, hw⟩ : ∃ q, q = wc := ⟨_, rfl⟩
    subst hw
    have HYES := Lib.hid hyes
    clear hyes HQ5 HRJ5 HR3 HB3
    clear Xn5
    have hs6 := C.size
    have B6 : Hid (Below w.heap.size w w7) := Lib.hid (B5.out.trans (C.under (B := w.heap.size) (by omega) (by omega)))
    clear B5
    have Xx6 : Hid (Blk w7 w.heap.size 27 #[.slice (some ⟨b, off, none⟩) ln.length c, .slice P lp.length d]) := Lib.hid ((C.block _ Xx5.out.lt (by omega)).trans Xx5.out)
    clear Xx5
    have Xy6 : Hid (Blk w7 (w.heap.size + 1) 51 #[.int .i64 ak, .int .i64 ((j : Int) + 1), .int .i64 ab, .int .i64 m.k, .int .i64 m.r, .int .i64 m.v, .int .i64 m.p, .int .i64 m.f]) := Lib.hid ((C.block _ Xy5.out.lt (by omega)).trans Xy5.out)
    clear Xy5
    have Xr6 : Hid (Blk w7 (w.heap.size + 1 + 1) 27 #[.slice none 0 0, .slice none 0 0]) := Lib.hid ((C.block _ Xr5.out.lt (by omega)).trans Xr5.out)
    clear Xr5
    have Xo6 : Hid (Blk w7 w1.heap.size 27 #[.slice A1 ln.length c1, .slice P1 lp.length d1]) := Lib.hid ((C.block _ Xo5.out.lt (by omega)).trans Xo5.out)
    clear Xo5
    have On6 := Lib.hid (On5.out.chg C (by omega))
    clear On5
    have Op6 := Lib.hid (Op5.out.chg C (by omega))
    clear Op5
    clear C
    obtain ⟨ok, hok⟩ : ∃ q, r.2 = q := ⟨_, rfl⟩
    rw [hok]
    have HOK := Lib.hid hok
    clear hok
    cases ok
    case false =>
      have ceo := Xo6.out.cell
      have fzo := Xo6.out.frozen
      have lbo := Xo6.out.lt
      have cer := Xr6.out.cell
      have fzr := Xr6.out.frozen
      have lbr := Xr6.out.lt
      have cex := Xx6.out.cell
      have fzx := Xx6.out.frozen
      have lbx := Xx6.out.lt
      have cey := Xy6.out.cell
      have fzy := Xy6.out.frozen
      have lby := Xy6.out.lt
      have HE : Hid (netDoN ln lp ⟨ak, (j : Int) + 1, ab, m⟩ = (ln, lp, false)) := Lib.hid (by exact netDoN_no hk4 HBAD.out HND.out HR.out HOK.out)
      go_wp2_with fail
      refine bodyPost_ret (v := .tuple #[.agg #[.slice A1 ln.length c1, .slice P1 lp.length d1], .bool false]) (by simp [results, Try.results35, go_sem, cer]) rfl ?_
      refine NetDid.mk HE.out rfl rfl (NetIn.close (w := w7) (R := (w.heap.size + 1 + 1)) On6.out (.inl Op6.out) (by (repeat (first | with_reducible refine Chg.setCell ?_ (by first | exact Nat.le_refl _ | (simp; done) | (simp; omega)) (by first | (simp; done) | (simp; omega)) _ | with_reducible refine Chg.alloc ?_ _ | with_reducible refine Chg.drew ?_)); (with_reducible exact Chg.refl _ _ _)) (by omega) (by omega) hw3 (by omega) (by omega)) ?_
      (repeat (first | with_reducible refine Below.setCell ?_ (by first | exact Nat.le_refl _ | (simp; done) | (simp; omega)) _ | with_reducible refine Below.alloc ?_ (by first | exact Nat.le_refl _ | (simp; done) | (simp; omega)) _ | with_reducible refine Below.drew ?_)); (with_reducible exact B6.out)
    obtain ⟨Aq, cq, Bq, dq, rfl, hbN, ho7, ho8⟩ := HYES.out HOK.out
    have XN := Lib.hid hbN
    have H7 := Lib.hid ho7
    have hs8 := Lib.hid ho8
    clear hbN ho7 ho8 HYES
    obtain ⟨hl7, hl8⟩ := callN_len lp ⟨s, l⟩ ⟨ak, (j : Int) + 1, ab, m⟩ (by show l.length ≤ 2000; omega)
    rw [← HR.out] at hl7 hl8
    have H8 := hs8
    clear hs8
    have hnx := NodesX.of On6.out
    obtain ⟨g, cur, rfl, hg1, hg2, hblk, hnc, hsz⟩ := hnx.open (by omega)
    have HNX := Lib.hid hnx
    have HBG := Lib.hid hblk
    have hj10 : j * 10 + 10 ≤ cur.size := by omega
    have q0 := hblk.has (j * 10) (by omega)
    have q1 := hblk.has (j * 10 + 1) (by omega)
    have q2 := hblk.has (j * 10 + 2) (by omega)
    have q3 := hblk.has (j * 10 + 3) (by omega)
    have q4 := hblk.has (j * 10 + 4) (by omega)
    have q5 := hblk.has (j * 10 + 5) (by omega)
    have q6 := hblk.has (j * 10 + 6) (by omega)
    have q7 := hblk.has (j * 10 + 7) (by omega)
    have q8 := hblk.has (j * 10 + 8) (by omega)
    have q9 := hblk.has (j * 10 + 9) (by omega)
    have qf := hblk.frozen
    have hgl := hblk.lt
    have cen := XN.out.cell
    have lbn := XN.out.lt
    clear hnx hblk
    have ceo := Xo6.out.cell
    have fzo := Xo6.out.frozen
    have lbo := Xo6.out.lt
    have cey := Xy6.out.cell
    have fzy := Xy6.out.frozen
    have lby := Xy6.out.lt
    go_upto_region 22 with fail
    obtain ⟨w8, hw8⟩ : ∃ z, z = ((((((((((w7.setCell ⟨g, j * 10, none⟩ (.int .i64 r.1.s.me)).setCell ⟨g, j * 10 + 1, none⟩ (.int .i64 r.1.s.round)).setCell ⟨g, j * 10 + 2, none⟩ (.int .i64 r.1.s.step)).setCell ⟨g, j * 10 + 3, none⟩ (.int .i64 r.1.s.lv)).setCell ⟨g, j * 10 + 4, none⟩ (.int .i64 r.1.s.lr)).setCell ⟨g, j * 10 + 5, none⟩ (.int .i64 r.1.s.vv)).setCell ⟨g, j * 10 + 6, none⟩ (.int .i64 r.1.s.vr)).setCell ⟨g, j * 10 + 7, none⟩ (.int .i64 r.1.s.polka)).setCell ⟨g, j * 10 + 8, none⟩ (.int .i64 r.1.s.dec)).setCell ⟨g, j * 10 + 9, none⟩ (.slice Aq r.1.l.length cq)) := ⟨_, rfl⟩
    rw [← hw8]
    have C : Chg g (g + 1) w7 w8 := by rw [hw8]; (repeat (first | with_reducible refine Chg.setCell ?_ (by first | exact Nat.le_refl _ | (simp; done) | (simp; omega)) (by first | (simp; done) | (simp; omega)) _ | with_reducible refine Chg.alloc ?_ _ | with_reducible refine Chg.drew ?_)); (with_reducible exact Chg.refl _ _ _)
    have hb8 := ((((((((((HBG.out.set_ (j * 10) (.int .i64 r.1.s.me)).set_ (j * 10 + 1) (.int .i64 r.1.s.round)).set_ (j * 10 + 2) (.int .i64 r.1.s.step)).set_ (j * 10 + 3) (.int .i64 r.1.s.lv)).set_ (j * 10 + 4) (.int .i64 r.1.s.lr)).set_ (j * 10 + 5) (.int .i64 r.1.s.vv)).set_ (j * 10 + 6) (.int .i64 r.1.s.vr)).set_ (j * 10 + 7) (.int .i64 r.1.s.polka)).set_ (j * 10 + 8) (.int .i64 r.1.s.dec)).set_ (j * 10 + 9) (.slice Aq r.1.l.length cq))
    rw [← hw8] at hb8
    clear hw8
    have HN8 : Hid (NodesOwn w8 m1 w7.heap.size (some ⟨g, 0, none⟩) ln.length c1 (ln.set j ⟨r.1.s, r.1.l⟩)) := Lib.hid (NodesX.put (lo2 := w5.heap.size) (s := r.1.s) (B := Aq) (m := r.1.l.length) (d := cq) (l := r.1.l) HNX.out HBG.out hj3 C hb8 (by simp)
      (fun i hi => by simp [Array.getElem?_setIfInBounds]; rw [if_neg (by omega)]; rw [if_neg (by omega)]; rw [if_neg (by omega)]; rw [if_neg (by omega)]; rw [if_neg (by omega)]; rw [if_neg (by omega)]; rw [if_neg (by omega)]; rw [if_neg (by omega)]; rw [if_neg (by omega)]; rw [if_neg (by omega)])
      (fun q hq => by rcases (by omega : q = 0 ∨ q = 1 ∨ q = 2 ∨ q = 3 ∨ q = 4 ∨ q = 5 ∨ q = 6 ∨ q = 7 ∨ q = 8 ∨ q = 9) with rfl | rfl | rfl | rfl | rfl | rfl | rfl | rfl | rfl | rfl <;> simp [Array.getElem?_setIfInBounds, nodeC] <;> omega)
      (H7.out.chg C (.inr (by omega))) (by omega) (by omega) (by omega) (fun q _ _ h => h)).own
    have HS8 := Lib.hid (H8.out.chg C (.inr (by omega)))
    clear hb8 q0 q1 q2 q3 q4 q5 q6 q7 q8 q9 qf cen lbn HBG HNX H7 H8 XN hgl
    clear On6
    clear ceo fzo
    clear cey fzy
    clear lbo
    clear lby
    have hs7 := C.size
    have B7 : Hid (Below w.heap.size w w8) := Lib.hid (B6.out.trans (C.under (B := w.heap.size) (by omega) (by omega)))
    clear B6
    have Xx7 : Hid (Blk w8 w.heap.size 27 #[.slice (some ⟨b, off, none⟩) ln.length c, .slice P lp.length d]) := Lib.hid ((C.block _ Xx6.out.lt (by omega)).trans Xx6.out)
    clear Xx6
    have Xy7 : Hid (Blk w8 (w.heap.size + 1) 51 #[.int .i64 ak, .int .i64 ((j : Int) + 1), .int .i64 ab, .int .i64 m.k, .int .i64 m.r, .int .i64 m.v, .int .i64 m.p, .int .i64 m.f]) := Lib.hid ((C.block _ Xy6.out.lt (by omega)).trans Xy6.out)
    clear Xy6
    have Xr7 : Hid (Blk w8 (w.heap.size + 1 + 1) 27 #[.slice none 0 0, .slice none 0 0]) := Lib.hid ((C.block _ Xr6.out.lt (by omega)).trans Xr6.out)
    clear Xr6
    have Xo7 : Hid (Blk w8 w1.heap.size 27 #[.slice (some ⟨g, 0, none⟩) ln.length c1, .slice P1 lp.length d1]) := Lib.hid ((C.block _ Xo6.out.lt (by omega)).trans Xo6.out)
    clear Xo6
    have Op7 := Lib.hid (Op6.out.chg C (by omega))
    clear Op6
    clear C
    have hlenS : (ln.set j (⟨r.1.s, r.1.l⟩ : NodeD)).length = ln.length := by simp
    have HNS := Lib.hid hlenS
    clear hlenS
    go_wp2_with fail
    go_loopw [123] (fun i wr => ∃ (k : Nat) (P' : Option Addr) (d' : Nat), k ≤ r.1.o.length ∧ i = .int .i64 k ∧ PoolIn wr (w.heap.size + 3) m1 w8.heap.size P' d' (addAll lp (r.1.o.take k)) ∧ Blk wr w1.heap.size 27 #[.slice (some ⟨g, 0, none⟩) ln.length c1, .slice P' (addAll lp (r.1.o.take k)).length d'] ∧ Keep (fun q => q < (w.heap.size + 3) ∨ (m1 ≤ q ∧ q < w8.heap.size ∧ q ≠ w1.heap.size)) w8 wr) (fun i _ => r.1.o.length - (intOf i).toNat)
    case atStart => exact ⟨0, P1, d1, by omega, rfl, .inl Op7.out, Xo7.out, Keep.refl _ _⟩
    case round =>
      obtain ⟨k, P', d', hk, rfl, hpi, hbo, hke⟩ := hrel
      have hlp := addAll_len lp (r.1.o.take k)
      rw [List.length_take] at hlp
      have hlp2 : (addAll lp (r.1.o.take k)).length ≤ 3000 := by omega
      clear hlp
      have HPI := Lib.hid hpi
      have HBO := Lib.hid hbo
      have HKE := Lib.hid hke
      have hsr := hke.size
      have hlo8 : w1.heap.size < wr.heap.size := hbo.lt
      clear hpi hbo hke
      by_cases hkn : k < r.1.o.length
      · skip
        have HS : Hid (OwnL msgC 5 49 wr w5.heap.size w7.heap.size Bq r.1.o.length dq r.1.o) := Lib.hid (HS8.out.kept HKE.out fun q h1 h2 => .inr ⟨by omega, by omega, by omega⟩)
        obtain ⟨b9, off9, p, rfl, hb9, hp, z0, z1, z2, z3, z4⟩ := msg_cells (HS.out.rd msgC_len) hkn
        have hb9' : b9 < wr.heap.size := by omega
        have HTK : Hid (addAll lp (r.1.o.take (k + 1)) = addN (addAll lp (r.1.o.take k)) p) := Lib.hid (by unfold addAll; rw [List.take_add_one, hp]; simp)
        clear hp
        go_upto_region 25 with fail
        obtain ⟨w9, hw9⟩ : ∃ q, q = wr.alloc (.cells #[.int .i64 p.k, .int .i64 p.r, .int .i64 p.v, .int .i64 p.p, .int .i64 p.f] 49) := ⟨_, rfl⟩
        rw [← hw9]
        have hb90 : Below wr.heap.size wr w9 := by rw [hw9]; exact (Below.refl _ _).alloc (Nat.le_refl _) _
        have HM9 : Hid (Blk w9 wr.heap.size 49 #[.int .i64 p.k, .int .i64 p.r, .int .i64 p.v, .int .i64 p.p, .int .i64 p.f]) := Lib.hid (by rw [hw9]; exact heap_alloc_new wr _)
        clear hw9 z0 z1 z2 z3 z4
        have HPI9 := Lib.hid (HPI.out.below hb90 (by omega))
        have HBO9 := Lib.hid (HBO.out.below hb90 hlo8)
        have hs9 := hb90.size
        have HKE9 := Lib.hid (HKE.out.trans (Keep.of_below hb90 fun q hq => by omega))
        clear hb90
        generalize addAll lp (r.1.o.take k) = lq at *
        have ceo := HBO9.out.cell
        have lbo := HBO9.out.lt
        have ce9 := HM9.out.cell
        have lb9 := HM9.out.lt
        cases h3 : hasB lq p
        · have H3 := Lib.hid h3
          clear h3
          go_wp2_with fail
          refine (Contains_b P' lq.length d' lq p false _ (HPI9.out.rd (by omega)) H3.out).mono ?_
          rintro e w10 ⟨rfl, hb⟩
          have HPI10 := Lib.hid (HPI9.out.below hb (by omega))
          have HBO10 := Lib.hid (HBO9.out.below hb lbo)
          have hs10 := hb.size
          have HKE10 := Lib.hid (HKE9.out.trans (Keep.of_below hb fun q hq => by omega))
          have HM10 := Lib.hid (HM9.out.below hb lb9)
          clear hb ceo lbo ce9 lb9
          have ceo := HBO10.out.cell
          have fzo := HBO10.out.frozen
          have lbo := HBO10.out.lt
          have ce9 := HM10.out.cell
          have lb9 := HM10.out.lt
          have HTQ : Hid (addAll lp (r.1.o.take (k + 1)) = lq ++ [p]) := Lib.hid (by rw [HTK.out]; unfold addN; rw [if_neg (by rw [H3.out]; simp)])
          go_wp2_with (at_builtin; refine wpList_app_rd _ rfl _ _ _ rfl (w.heap.size + 3) 49 i0 _ 5 40 Try.underlying25 hi hz0 hz1 hz2 rfl (by decide) (.slice P' lq.length d') lq.length (lq.flatMap msgC) rfl (by exact (HPI10.out.below ((Below.refl _ _).alloc (Nat.le_refl _) _) (by omega)).owns (by omega)) _ _ 1 1 _ rfl (by exact Rd.one5 w10 p _ (by first | rfl | simp)) (msgC_one _) (by unfold maxLen; omega) (by omega) (by first | (simp; done) | (simp; omega)) ?_)
          intro v2 w11 hown hg11 hat
          obtain ⟨P2, d2, rfl, hp2, hk2⟩ := (HPI10.out.below ((Below.refl _ _).alloc (Nat.le_refl _) _) (by omega)).app (by omega) (by simp; omega) (by omega) hown hg11 hat (by simp)
          have hk3 : Keep (fun q => q < (w.heap.size + 3) ∨ (m1 ≤ q ∧ q < w8.heap.size)) w10 w11 := ((Keep.refl _ w10).alloc (fun q hq => by omega) _).trans hk2
          have HBO11 : Hid (Blk w11 w1.heap.size 27 _) := Lib.hid (hk3.blk (.inr ⟨by omega, by omega⟩) HBO10.out)
          have HKE11 := Lib.hid (HKE10.out.trans (hk3.mono fun q hq => by omega))
          have HPI11 := Lib.hid hp2
          clear hown hg11 hat hp2 hk2 hk3 ceo fzo lbo ce9 lb9
          have ceo := HBO11.out.cell
          have fzo := HBO11.out.frozen
          have lbo := HBO11.out.lt
          go_wp2_with fail
          go_roundw
          case rel =>
            have D : Chg w1.heap.size (w1.heap.size + 1) w11 (w11.setCell ⟨w1.heap.size, 1, none⟩ (.slice P2 (lq.length + 1) d2)) := Chg.setCell (p := ⟨w1.heap.size, 1, none⟩) (Chg.refl _ _ w11) (Nat.le_refl _) (Nat.lt_succ_self _) _
            refine ⟨k + 1, P2, d2, by omega, by go_num, ?_, ?_, ?_⟩
            · rw [HTQ.out]; exact HPI11.out.chg D (.inl (by omega)) (by omega)
            · rw [HTQ.out]
              have h := HBO11.out.set_ 1 (.slice P2 (lq.length + 1) d2)
              simpa using h
            · exact HKE11.out.setCell (by show ¬ (w1.heap.size < (w.heap.size + 3) ∨ (m1 ≤ w1.heap.size ∧ w1.heap.size < w8.heap.size ∧ w1.heap.size ≠ w1.heap.size)); omega) _
          case measure => simp [intOf]; omega
        · have H3 := Lib.hid h3
          clear h3
          go_wp2_with fail
          refine (Contains_b P' lq.length d' lq p true _ (HPI9.out.rd (by omega)) H3.out).mono ?_
          rintro e w10 ⟨rfl, hb⟩
          have HPI10 := Lib.hid (HPI9.out.below hb (by omega))
          have HBO10 := Lib.hid (HBO9.out.below hb lbo)
          have hs10 := hb.size
          have HKE10 := Lib.hid (HKE9.out.trans (Keep.of_below hb fun q hq => by omega))
          have HM10 := Lib.hid (HM9.out.below hb lb9)
          clear hb ceo lbo ce9 lb9
          have ceo := HBO10.out.cell
          have fzo := HBO10.out.frozen
          have lbo := HBO10.out.lt
          have ce9 := HM10.out.cell
          have lb9 := HM10.out.lt
          have HTQ : Hid (addAll lp (r.1.o.take (k + 1)) = lq) := Lib.hid (by rw [HTK.out]; unfold addN; rw [if_pos H3.out])
          go_wp2_with fail
          go_roundw
          case rel => exact ⟨k + 1, P', d', by omega, by go_num, by rw [HTQ.out]; exact HPI10.out, by rw [HTQ.out]; exact HBO10.out, HKE10.out⟩
          case measure => simp [intOf]; omega
      · skip
        obtain rfl : k = r.1.o.length := by omega
        have hall : r.1.o.take r.1.o.length = r.1.o := List.take_length
        rw [hall] at HPI HBO hlp2
        clear hall
        have HRr : Hid (Blk wr (w.heap.size + 1 + 1) 27 #[.slice none 0 0, .slice none 0 0]) := Lib.hid (HKE.out.blk (.inl (by omega)) Xr7.out)
        have HXr : Hid (Blk wr w.heap.size 27 #[.slice (some ⟨b, off, none⟩) ln.length c, .slice P lp.length d]) := Lib.hid (HKE.out.blk (.inl (by omega)) Xx7.out)
        have HNr : Hid (NodesOwn wr m1 w7.heap.size (some ⟨g, 0, none⟩) ln.length c1 (ln.set j ⟨r.1.s, r.1.l⟩)) := Lib.hid (HN8.out.keptT HKE.out Xo7.out (by decide) (by decide) fun q h1 h2 h3 => .inr ⟨h1, by omega, h3⟩)
        have BWr : Hid (Below w.heap.size w wr) := Lib.hid (B7.out.trans (HKE.out.below fun q hq => .inl (by omega)))
        have ceo := HBO.out.cell
        have cex := HXr.out.cell
        have lbx := HXr.out.lt
        have cer := HRr.out.cell
        have fzr := HRr.out.frozen
        have lbr := HRr.out.lt
        by_cases hbig : 150 < (addAll lp r.1.o).length
        · have HE : Hid (netDoN ln lp ⟨ak, (j : Int) + 1, ab, m⟩ = (ln, lp, false)) := Lib.hid (netDoN_big hk4 HBAD.out HND.out HR.out HOK.out hbig)
          go_wp2_with fail
          refine (copyNet_any (some ⟨b, off, none⟩) c P d ln lp _ ((HL.out.below BWr.out (Nat.le_refl _)).more BWr.out.size) ((HP.out.below BWr.out (Nat.le_refl _)).more BWr.out.size) (by omega) HM.out (by omega)).mono ?_
          rintro e w12 ⟨A3, c3, P3, d3, m3, rfl, hm3, hm3', ho, hpo, hb⟩
          have HR12 := Lib.hid (HRr.out.below hb lbr)
          have B12 := Lib.hid (BWr.out.trans (hb.mono BWr.out.size))
          have hs12 := hb.size
          have HO12 := Lib.hid ho
          have HP12 := Lib.hid hpo
          clear hb ho hpo cex lbx ceo cer fzr
          have cer := HR12.out.cell
          have fzr := HR12.out.frozen
          go_wp2_with fail
          refine bodyPost_ret (v := .tuple #[.agg #[.slice A3 ln.length c3, .slice P3 lp.length d3], .bool false]) (by simp [results, Try.results35, go_sem, cer]) rfl ?_
          refine NetDid.mk HE.out rfl rfl (NetIn.close (w := w12) (lo := wr.heap.size) (R := (w.heap.size + 1 + 1)) HO12.out (.inl HP12.out) (by (repeat (first | with_reducible refine Chg.setCell ?_ (by first | exact Nat.le_refl _ | (simp; done) | (simp; omega)) (by first | (simp; done) | (simp; omega)) _ | with_reducible refine Chg.alloc ?_ _ | with_reducible refine Chg.drew ?_)); (with_reducible exact Chg.refl _ _ _)) (by omega) (by omega) hm3 hm3' (Nat.le_refl _)) ?_
          (repeat (first | with_reducible refine Below.setCell ?_ (by first | exact Nat.le_refl _ | (simp; done) | (simp; omega)) _ | with_reducible refine Below.alloc ?_ (by first | exact Nat.le_refl _ | (simp; done) | (simp; omega)) _ | with_reducible refine Below.drew ?_)); (with_reducible exact B12.out)
        · have HE : Hid (netDoN ln lp ⟨ak, (j : Int) + 1, ab, m⟩ = (ln.set j ⟨r.1.s, r.1.l⟩, addAll lp r.1.o, true)) := Lib.hid (by
            have h := netDoN_yes hk4 HBAD.out HND.out HR.out HOK.out hbig
            rw [h]
            show (ln.set ((j : Int) + 1 - 1).toNat _, _, _) = _
            rw [show ((j : Int) + 1 - 1).toNat = j by omega])
          go_wp2_with fail
          refine bodyPost_ret (v := .tuple #[.agg #[.slice (some ⟨g, 0, none⟩) ln.length c1, .slice P' (addAll lp r.1.o).length d'], .bool true]) (by simp [results, Try.results35, go_sem, cer]) rfl ?_
          refine NetDid.mk HE.out (by simp) rfl (NetIn.close (w := wr) (R := (w.heap.size + 1 + 1)) (m2 := w8.heap.size) (by have h := HNr.out.wide (Nat.le_refl _) (show w7.heap.size ≤ w8.heap.size by omega); simpa using h) HPI.out (by (repeat (first | with_reducible refine Chg.setCell ?_ (by first | exact Nat.le_refl _ | (simp; done) | (simp; omega)) (by first | (simp; done) | (simp; omega)) _ | with_reducible refine Chg.alloc ?_ _ | with_reducible refine Chg.drew ?_)); (with_reducible exact Chg.refl _ _ _)) (by omega) (by omega) hw3 (by omega) (by omega)) ?_
          (repeat (first | with_reducible refine Below.setCell ?_ (by first | exact Nat.le_refl _ | (simp; done) | (simp; omega)) _ | with_reducible refine Below.alloc ?_ (by first | exact Nat.le_refl _ | (simp; done) | (simp; omega)) _ | with_reducible refine Below.drew ?_)); (with_reducible exact BWr.out)
  · skip
    have HK := Lib.hid hk
    cases h1 : okMsg m
    · skip
      have H1 := Lib.hid h1
      have cey := Xy2.out.cell
      have fzy := Xy2.out.frozen
      have lby := Xy2.out.lt
      have cex := Xx2.out.cell
      have fzx := Xx2.out.frozen
      have lbx := Xx2.out.lt
      have cer := Xr2.out.cell
      have fzr := Xr2.out.frozen
      have lbr := Xr2.out.lt
      have ceo := Xo2.out.cell
      have fzo := Xo2.out.frozen
      have lbo := Xo2.out.lt
      clear h1
      go_wp2_with fail
      refine (MsgOk_b m false _ H1.out).mono ?_
      rintro e w3 ⟨rfl, hb⟩
      have C : Chg 0 0 w2 w3 := by exact Chg.of_below hb
      clear hb
      clear cey fzy
      clear cex fzx
      clear cer fzr
      clear ceo fzo
      clear lby
      clear lbx
      clear lbr
      clear lbo
      have hs3 := C.size
      have B3 : Hid (Below w.heap.size w w3) := Lib.hid (B2.out.trans (C.under (B := w.heap.size) (by omega) (by omega)))
      clear B2
      have Xx3 : Hid (Blk w3 w.heap.size 27 #[.slice A ln.length c, .slice P lp.length d]) := Lib.hid ((C.block _ Xx2.out.lt (by omega)).trans Xx2.out)
      clear Xx2
      have Xy3 : Hid (Blk w3 (w.heap.size + 1) 51 #[.int .i64 ak, .int .i64 aa, .int .i64 ab, .int .i64 m.k, .int .i64 m.r, .int .i64 m.v, .int .i64 m.p, .int .i64 m.f]) := Lib.hid ((C.block _ Xy2.out.lt (by omega)).trans Xy2.out)
      clear Xy2
      have Xr3 : Hid (Blk w3 (w.heap.size + 1 + 1) 27 #[.slice none 0 0, .slice none 0 0]) := Lib.hid ((C.block _ Xr2.out.lt (by omega)).trans Xr2.out)
      clear Xr2
      have Xo3 : Hid (Blk w3 w1.heap.size 27 #[.slice A1 ln.length c1, .slice P1 lp.length d1]) := Lib.hid ((C.block _ Xo2.out.lt (by omega)).trans Xo2.out)
      clear Xo2
      have On3 := Lib.hid (On2.out.chg C (by omega))
      clear On2
      have Op3 := Lib.hid (Op2.out.chg C (by omega))
      clear Op2
      clear C
      have ceo := Xo3.out.cell
      have fzo := Xo3.out.frozen
      have lbo := Xo3.out.lt
      have cer := Xr3.out.cell
      have fzr := Xr3.out.frozen
      have lbr := Xr3.out.lt
      have cex := Xx3.out.cell
      have fzx := Xx3.out.frozen
      have lbx := Xx3.out.lt
      have cey := Xy3.out.cell
      have fzy := Xy3.out.frozen
      have lby := Xy3.out.lt
      have HE : Hid (netDoN ln lp ⟨ak, aa, ab, m⟩ = (ln, lp, false)) := Lib.hid (by have h1 := H1.out; unfold netDoN; simp [hk, lieBad, h1])
      go_wp2_with fail
      refine bodyPost_ret (v := .tuple #[.agg #[.slice A1 ln.length c1, .slice P1 lp.length d1], .bool false]) (by simp [results, Try.results35, go_sem, cer]) rfl ?_
      refine NetDid.mk HE.out rfl rfl (NetIn.close (w := w3) (R := (w.heap.size + 1 + 1)) On3.out (.inl Op3.out) (by (repeat (first | with_reducible refine Chg.setCell ?_ (by first | exact Nat.le_refl _ | (simp; done) | (simp; omega)) (by first | (simp; done) | (simp; omega)) _ | with_reducible refine Chg.alloc ?_ _ | with_reducible refine Chg.drew ?_)); (with_reducible exact Chg.refl _ _ _)) (by omega) (by omega) hw3 (by omega) (by omega)) ?_
      (repeat (first | with_reducible refine Below.setCell ?_ (by first | exact Nat.le_refl _ | (simp; done) | (simp; omega)) _ | with_reducible refine Below.alloc ?_ (by first | exact Nat.le_refl _ | (simp; done) | (simp; omega)) _ | with_reducible refine Below.drew ?_)); (with_reducible exact B3.out)
    have H1 := Lib.hid h1
    clear h1
    cases h2 : (m.f == 4)
    · skip
      have h2n : (m.f != 4) = true := by rw [bne, h2]; rfl
      have cey := Xy2.out.cell
      have fzy := Xy2.out.frozen
      have lby := Xy2.out.lt
      have cex := Xx2.out.cell
      have fzx := Xx2.out.frozen
      have lbx := Xx2.out.lt
      have cer := Xr2.out.cell
      have fzr := Xr2.out.frozen
      have lbr := Xr2.out.lt
      have ceo := Xo2.out.cell
      have fzo := Xo2.out.frozen
      have lbo := Xo2.out.lt
      go_wp2_with fail
      refine (MsgOk_b m true _ H1.out).mono ?_
      rintro e w3 ⟨rfl, hb⟩
      have C : Chg 0 0 w2 w3 := by exact Chg.of_below hb
      clear hb
      clear cey fzy
      clear cex fzx
      clear cer fzr
      clear ceo fzo
      clear lby
      clear lbx
      clear lbr
      clear lbo
      have hs3 := C.size
      have B3 : Hid (Below w.heap.size w w3) := Lib.hid (B2.out.trans (C.under (B := w.heap.size) (by omega) (by omega)))
      clear B2
      have Xx3 : Hid (Blk w3 w.heap.size 27 #[.slice A ln.length c, .slice P lp.length d]) := Lib.hid ((C.block _ Xx2.out.lt (by omega)).trans Xx2.out)
      clear Xx2
      have Xy3 : Hid (Blk w3 (w.heap.size + 1) 51 #[.int .i64 ak, .int .i64 aa, .int .i64 ab, .int .i64 m.k, .int .i64 m.r, .int .i64 m.v, .int .i64 m.p, .int .i64 m.f]) := Lib.hid ((C.block _ Xy2.out.lt (by omega)).trans Xy2.out)
      clear Xy2
      have Xr3 : Hid (Blk w3 (w.heap.size + 1 + 1) 27 #[.slice none 0 0, .slice none 0 0]) := Lib.hid ((C.block _ Xr2.out.lt (by omega)).trans Xr2.out)
      clear Xr2
      have Xo3 : Hid (Blk w3 w1.heap.size 27 #[.slice A1 ln.length c1, .slice P1 lp.length d1]) := Lib.hid ((C.block _ Xo2.out.lt (by omega)).trans Xo2.out)
      clear Xo2
      have On3 := Lib.hid (On2.out.chg C (by omega))
      clear On2
      have Op3 := Lib.hid (Op2.out.chg C (by omega))
      clear Op2
      clear C
      have cey := Xy3.out.cell
      have fzy := Xy3.out.frozen
      have lby := Xy3.out.lt
      have cex := Xx3.out.cell
      have fzx := Xx3.out.frozen
      have lbx := Xx3.out.lt
      have cer := Xr3.out.cell
      have fzr := Xr3.out.frozen
      have lbr := Xr3.out.lt
      have ceo := Xo3.out.cell
      have fzo := Xo3.out.frozen
      have lbo := Xo3.out.lt
      clear cey fzy
      clear cex fzx
      clear cer fzr
      clear ceo fzo
      clear lby
      clear lbx
      clear lbr
      clear lbo
      have ceo := Xo3.out.cell
      have fzo := Xo3.out.frozen
      have lbo := Xo3.out.lt
      have cer := Xr3.out.cell
      have fzr := Xr3.out.frozen
      have lbr := Xr3.out.lt
      have cex := Xx3.out.cell
      have fzx := Xx3.out.frozen
      have lbx := Xx3.out.lt
      have cey := Xy3.out.cell
      have fzy := Xy3.out.frozen
      have lby := Xy3.out.lt
      have HE : Hid (netDoN ln lp ⟨ak, aa, ab, m⟩ = (ln, lp, false)) := Lib.hid (by have h1 := H1.out; unfold netDoN; simp [hk, lieBad, h1, h2])
      go_wp2_with fail
      refine bodyPost_ret (v := .tuple #[.agg #[.slice A1 ln.length c1, .slice P1 lp.length d1], .bool false]) (by simp [results, Try.results35, go_sem, cer]) rfl ?_
      refine NetDid.mk HE.out rfl rfl (NetIn.close (w := w3) (R := (w.heap.size + 1 + 1)) On3.out (.inl Op3.out) (by (repeat (first | with_reducible refine Chg.setCell ?_ (by first | exact Nat.le_refl _ | (simp; done) | (simp; omega)) (by first | (simp; done) | (simp; omega)) _ | with_reducible refine Chg.alloc ?_ _ | with_reducible refine Chg.drew ?_)); (with_reducible exact Chg.refl _ _ _)) (by omega) (by omega) hw3 (by omega) (by omega)) ?_
      (repeat (first | with_reducible refine Below.setCell ?_ (by first | exact Nat.le_refl _ | (simp; done) | (simp; omega)) _ | with_reducible refine Below.alloc ?_ (by first | exact Nat.le_refl _ | (simp; done) | (simp; omega)) _ | with_reducible refine Below.drew ?_)); (with_reducible exact B3.out)
    have h2n : (m.f != 4) = false := by rw [bne, h2]; rfl
    cases h3 : hasB lp m
    · skip
      have H3 := Lib.hid h3
      clear h3
      by_cases h4 : 150 ≤ lp.length
      · skip
        have cey := Xy2.out.cell
        have fzy := Xy2.out.frozen
        have lby := Xy2.out.lt
        have cex := Xx2.out.cell
        have fzx := Xx2.out.frozen
        have lbx := Xx2.out.lt
        have cer := Xr2.out.cell
        have fzr := Xr2.out.frozen
        have lbr := Xr2.out.lt
        have ceo := Xo2.out.cell
        have fzo := Xo2.out.frozen
        have lbo := Xo2.out.lt
        go_wp2_with fail
        refine (MsgOk_b m true _ H1.out).mono ?_
        rintro e w3 ⟨rfl, hb⟩
        have C : Chg 0 0 w2 w3 := by exact Chg.of_below hb
        clear hb
        clear cey fzy
        clear cex fzx
        clear cer fzr
        clear ceo fzo
        clear lby
        clear lbx
        clear lbr
        clear lbo
        have hs3 := C.size
        have B3 : Hid (Below w.heap.size w w3) := Lib.hid (B2.out.trans (C.under (B := w.heap.size) (by omega) (by omega)))
        clear B2
        have Xx3 : Hid (Blk w3 w.heap.size 27 #[.slice A ln.length c, .slice P lp.length d]) := Lib.hid ((C.block _ Xx2.out.lt (by omega)).trans Xx2.out)
        clear Xx2
        have Xy3 : Hid (Blk w3 (w.heap.size + 1) 51 #[.int .i64 ak, .int .i64 aa, .int .i64 ab, .int .i64 m.k, .int .i64 m.r, .int .i64 m.v, .int .i64 m.p, .int .i64 m.f]) := Lib.hid ((C.block _ Xy2.out.lt (by omega)).trans Xy2.out)
        clear Xy2
        have Xr3 : Hid (Blk w3 (w.heap.size + 1 + 1) 27 #[.slice none 0 0, .slice none 0 0]) := Lib.hid ((C.block _ Xr2.out.lt (by omega)).trans Xr2.out)
        clear Xr2
        have Xo3 : Hid (Blk w3 w1.heap.size 27 #[.slice A1 ln.length c1, .slice P1 lp.length d1]) := Lib.hid ((C.block _ Xo2.out.lt (by omega)).trans Xo2.out)
        clear Xo2
        have On3 := Lib.hid (On2.out.chg C (by omega))
        clear On2
        have Op3 := Lib.hid (Op2.out.chg C (by omega))
        clear Op2
        clear C
        have cey := Xy3.out.cell
        have fzy := Xy3.out.frozen
        have lby := Xy3.out.lt
        have cex := Xx3.out.cell
        have fzx := Xx3.out.frozen
        have lbx := Xx3.out.lt
        have cer := Xr3.out.cell
        have fzr := Xr3.out.frozen
        have lbr := Xr3.out.lt
        have ceo := Xo3.out.cell
        have fzo := Xo3.out.frozen
        have lbo := Xo3.out.lt
        go_wp2_with fail
        refine (Contains_b P lp.length d lp m false _ ((HP.out.below B3.out (Nat.le_refl _)).more B3.out.size) H3.out).mono ?_
        rintro e w4 ⟨rfl, hb⟩
        have C : Chg 0 0 w3 w4 := by exact Chg.of_below hb
        clear hb
        clear cey fzy
        clear cex fzx
        clear cer fzr
        clear ceo fzo
        clear lby
        clear lbx
        clear lbr
        clear lbo
        have hs4 := C.size
        have B4 : Hid (Below w.heap.size w w4) := Lib.hid (B3.out.trans (C.under (B := w.heap.size) (by omega) (by omega)))
        clear B3
        have Xx4 : Hid (Blk w4 w.heap.size 27 #[.slice A ln.length c, .slice P lp.length d]) := Lib.hid ((C.block _ Xx3.out.lt (by omega)).trans Xx3.out)
        clear Xx3
        have Xy4 : Hid (Blk w4 (w.heap.size + 1) 51 #[.int .i64 ak, .int .i64 aa, .int .i64 ab, .int .i64 m.k, .int .i64 m.r, .int .i64 m.v, .int .i64 m.p, .int .i64 m.f]) := Lib.hid ((C.block _ Xy3.out.lt (by omega)).trans Xy3.out)
        clear Xy3
        have Xr4 : Hid (Blk w4 (w.heap.size + 1 + 1) 27 #[.slice none 0 0, .slice none 0 0]) := Lib.hid ((C.block _ Xr3.out.lt (by omega)).trans Xr3.out)
        clear Xr3
        have Xo4 : Hid (Blk w4 w1.heap.size 27 #[.slice A1 ln.length c1, .slice P1 lp.length d1]) := Lib.hid ((C.block _ Xo3.out.lt (by omega)).trans Xo3.out)
        clear Xo3
        have On4 := Lib.hid (On3.out.chg C (by omega))
        clear On3
        have Op4 := Lib.hid (Op3.out.chg C (by omega))
        clear Op3
        clear C
        have ceo := Xo4.out.cell
        have fzo := Xo4.out.frozen
        have lbo := Xo4.out.lt
        have cer := Xr4.out.cell
        have fzr := Xr4.out.frozen
        have lbr := Xr4.out.lt
        have cex := Xx4.out.cell
        have fzx := Xx4.out.frozen
        have lbx := Xx4.out.lt
        have cey := Xy4.out.cell
        have fzy := Xy4.out.frozen
        have lby := Xy4.out.lt
        have HE : Hid (netDoN ln lp ⟨ak, aa, ab, m⟩ = (ln, lp, false)) := Lib.hid (by have h1 := H1.out; have h3 := H3.out; unfold netDoN; simp [hk, lieBad, h1, h2, h3, h4])
        go_wp2_with fail
        refine bodyPost_ret (v := .tuple #[.agg #[.slice A1 ln.length c1, .slice P1 lp.length d1], .bool false]) (by simp [results, Try.results35, go_sem, cer]) rfl ?_
        refine NetDid.mk HE.out rfl rfl (NetIn.close (w := w4) (R := (w.heap.size + 1 + 1)) On4.out (.inl Op4.out) (by (repeat (first | with_reducible refine Chg.setCell ?_ (by first | exact Nat.le_refl _ | (simp; done) | (simp; omega)) (by first | (simp; done) | (simp; omega)) _ | with_reducible refine Chg.alloc ?_ _ | with_reducible refine Chg.drew ?_)); (with_reducible exact Chg.refl _ _ _)) (by omega) (by omega) hw3 (by omega) (by omega)) ?_
        (repeat (first | with_reducible refine Below.setCell ?_ (by first | exact Nat.le_refl _ | (simp; done) | (simp; omega)) _ | with_reducible refine Below.alloc ?_ (by first | exact Nat.le_refl _ | (simp; done) | (simp; omega)) _ | with_reducible refine Below.drew ?_)); (with_reducible exact B4.out)
      have cey := Xy2.out.cell
      have fzy := Xy2.out.frozen
      have lby := Xy2.out.lt
      have cex := Xx2.out.cell
      have fzx := Xx2.out.frozen
      have lbx := Xx2.out.lt
      have cer := Xr2.out.cell
      have fzr := Xr2.out.frozen
      have lbr := Xr2.out.lt
      have ceo := Xo2.out.cell
      have fzo := Xo2.out.frozen
      have lbo := Xo2.out.lt
      go_wp2_with fail
      refine (MsgOk_b m true _ H1.out).mono ?_
      rintro e w3 ⟨rfl, hb⟩
      have C : Chg 0 0 w2 w3 := by exact Chg.of_below hb
      clear hb
      clear cey fzy
      clear cex fzx
      clear cer fzr
      clear ceo fzo
      clear lby
      clear lbx
      clear lbr
      clear lbo
      have hs3 := C.size
      have B3 : Hid (Below w.heap.size w w3) := Lib.hid (B2.out.trans (C.under (B := w.heap.size) (by omega) (by omega)))
      clear B2
      have Xx3 : Hid (Blk w3 w.heap.size 27 #[.slice A ln.length c, .slice P lp.length d]) := Lib.hid ((C.block _ Xx2.out.lt (by omega)).trans Xx2.out)
      clear Xx2
      have Xy3 : Hid (Blk w3 (w.heap.size + 1) 51 #[.int .i64 ak, .int .i64 aa, .int .i64 ab, .int .i64 m.k, .int .i64 m.r, .int .i64 m.v, .int .i64 m.p, .int .i64 m.f]) := Lib.hid ((C.block _ Xy2.out.lt (by omega)).trans Xy2.out)
      clear Xy2
      have Xr3 : Hid (Blk w3 (w.heap.size + 1 + 1) 27 #[.slice none 0 0, .slice none 0 0]) := Lib.hid ((C.block _ Xr2.out.lt (by omega)).trans Xr2.out)
      clear Xr2
      have Xo3 : Hid (Blk w3 w1.heap.size 27 #[.slice A1 ln.length c1, .slice P1 lp.length d1]) := Lib.hid ((C.block _ Xo2.out.lt (by omega)).trans Xo2.out)
      clear Xo2
      have On3 := Lib.hid (On2.out.chg C (by omega))
      clear On2
      have Op3 := Lib.hid (Op2.out.chg C (by omega))
      clear Op2
      clear C
      have cey := Xy3.out.cell
      have fzy := Xy3.out.frozen
      have lby := Xy3.out.lt
      have cex := Xx3.out.cell
      have fzx := Xx3.out.frozen
      have lbx := Xx3.out.lt
      have cer := Xr3.out.cell
      have fzr := Xr3.out.frozen
      have lbr := Xr3.out.lt
      have ceo := Xo3.out.cell
      have fzo := Xo3.out.frozen
      have lbo := Xo3.out.lt
      go_wp2_with fail
      refine (Contains_b P lp.length d lp m false _ ((HP.out.below B3.out (Nat.le_refl _)).more B3.out.size) H3.out).mono ?_
      rintro e w4 ⟨rfl, hb⟩
      have C : Chg 0 0 w3 w4 := by exact Chg.of_below hb
      clear hb
      clear cey fzy
      clear cex fzx
      clear cer fzr
      clear ceo fzo
      clear lby
      clear lbx
      clear lbr
      clear lbo
      have hs4 := C.size
      have B4 : Hid (Below w.heap.size w w4) := Lib.hid (B3.out.trans (C.under (B := w.heap.size) (by omega) (by omega)))
      clear B3
      have Xx4 : Hid (Blk w4 w.heap.size 27 #[.slice A ln.length c, .slice P lp.length d]) := Lib.hid ((C.block _ Xx3.out.lt (by omega)).trans Xx3.out)
      clear Xx3
      have Xy4 : Hid (Blk w4 (w.heap.size + 1) 51 #[.int .i64 ak, .int .i64 aa, .int .i64 ab, .int .i64 m.k, .int .i64 m.r, .int .i64 m.v, .int .i64 m.p, .int .i64 m.f]) := Lib.hid ((C.block _ Xy3.out.lt (by omega)).trans Xy3.out)
      clear Xy3
      have Xr4 : Hid (Blk w4 (w.heap.size + 1 + 1) 27 #[.slice none 0 0, .slice none 0 0]) := Lib.hid ((C.block _ Xr3.out.lt (by omega)).trans Xr3.out)
      clear Xr3
      have Xo4 : Hid (Blk w4 w1.heap.size 27 #[.slice A1 ln.length c1, .slice P1 lp.length d1]) := Lib.hid ((C.block _ Xo3.out.lt (by omega)).trans Xo3.out)
      clear Xo3
      have On4 := Lib.hid (On3.out.chg C (by omega))
      clear On3
      have Op4 := Lib.hid (Op3.out.chg C (by omega))
      clear Op3
      clear C
      have HE : Hid (netDoN ln lp ⟨ak, aa, ab, m⟩ = (ln, lp ++ [m], true)) := Lib.hid (by have h1 := H1.out; have h3 := H3.out; unfold netDoN; simp [hk, lieBad, h1, h2, h3, h4])
      have HPI : Hid (PoolIn w4 (w.heap.size + 3) m1 w4.heap.size P1 d1 lp) := Lib.hid (.inl Op4.out)
      have ceo := Xo4.out.cell
      have fzo := Xo4.out.frozen
      have lbo := Xo4.out.lt
      have cer := Xr4.out.cell
      have fzr := Xr4.out.frozen
      have lbr := Xr4.out.lt
      have cey := Xy4.out.cell
      have fzy := Xy4.out.frozen
      have lby := Xy4.out.lt
      have cex := Xx4.out.cell
      have fzx := Xx4.out.frozen
      have lbx := Xx4.out.lt
      go_wp2_with (at_builtin; refine wpList_app_rd _ rfl _ _ _ rfl (w.heap.size + 3) 49 i0 _ 5 40 Try.underlying25 hi hz0 hz1 hz2 rfl (by decide) (.slice P1 lp.length d1) lp.length (lp.flatMap msgC) rfl (by exact (HPI.out.below ((Below.refl _ _).alloc (Nat.le_refl _) _) (by omega)).owns (by omega)) _ _ 1 1 _ rfl (by exact Rd.one5 w4 m _ (by first | rfl | simp)) (msgC_one _) (by unfold maxLen; omega) (by omega) (by first | (simp; done) | (simp; omega)) ?_)
      intro v2 w5 hown hg hat
      obtain ⟨P2, d2, rfl, hp2, hk2⟩ := (HPI.out.below ((Below.refl _ _).alloc (Nat.le_refl _) _) (by omega)).app (by omega) (by simp) (by omega) hown hg hat (by simp)
      have hkeep : Keep (fun q => q < (w.heap.size + 3) ∨ (m1 ≤ q ∧ q < w4.heap.size)) w4 w5 := ((Keep.refl _ w4).alloc (fun q hq => by omega) _).trans hk2
      have HO5 : Hid (Blk w5 w1.heap.size 27 #[.slice A1 ln.length c1, .slice P1 lp.length d1]) := Lib.hid (hkeep.blk (.inr ⟨by omega, by omega⟩) Xo4.out)
      have HR5 : Hid (Blk w5 (w.heap.size + 1 + 1) 27 #[.slice none 0 0, .slice none 0 0]) := Lib.hid (hkeep.blk (.inl (by omega)) Xr4.out)
      have HN5 := Lib.hid (On4.out.kept hkeep fun q h1 h2 => .inr ⟨h1, by omega⟩)
      have HP5 := Lib.hid hp2
      have hsz5 := hkeep.size
      have B5 : Hid (Below w.heap.size w w5) := Lib.hid (B4.out.trans (hkeep.below (B := w.heap.size) fun q hq => .inl (by omega)))
      clear hown hg hat hp2 hkeep hk2
      clear ceo fzo
      clear cer fzr
      clear cey fzy
      clear cex fzx
      clear lbo
      clear lbr
      clear lby
      clear lbx
      have ceo := HO5.out.cell
      have fzo := HO5.out.frozen
      have lbo := HO5.out.lt
      have cer := HR5.out.cell
      have fzr := HR5.out.frozen
      have lbr := HR5.out.lt
      have hne1 : w1.heap.size ≠ w.heap.size + 1 + 1 := by omega
      go_wp2_with fail
      refine bodyPost_ret (v := .tuple #[.agg #[.slice A1 ln.length c1, .slice P2 (lp.length + 1) d2], .bool true]) (by simp [results, Try.results35, go_sem, cer]) rfl ?_
      have D : Chg w1.heap.size (w1.heap.size + 1) w5 (w5.setCell ⟨w1.heap.size, 1, none⟩ (.slice P2 (lp.length + 1) d2)) := Chg.setCell (p := ⟨w1.heap.size, 1, none⟩) (Chg.refl _ _ w5) (Nat.le_refl _) (Nat.lt_succ_self _) _
      refine NetDid.mk HE.out rfl (by simp) (NetIn.close (w := w5.setCell ⟨w1.heap.size, 1, none⟩ (.slice P2 (lp.length + 1) d2)) (R := (w.heap.size + 1 + 1)) ((HN5.out.chg D (.inl (Nat.le_refl _))).wide (Nat.le_refl _) (show w1.heap.size ≤ w4.heap.size by omega)) (HP5.out.chg D (.inl (by omega)) (by omega)) (by (repeat (first | with_reducible refine Chg.setCell ?_ (by first | exact Nat.le_refl _ | (simp; done) | (simp; omega)) (by first | (simp; done) | (simp; omega)) _ | with_reducible refine Chg.alloc ?_ _ | with_reducible refine Chg.drew ?_)); (with_reducible exact Chg.refl _ _ _)) (by omega) (by omega) hw3 (by omega) (by simp; omega)) ?_
      (repeat (first | with_reducible refine Below.setCell ?_ (by first | exact Nat.le_refl _ | (simp; done) | (simp; omega)) _ | with_reducible refine Below.alloc ?_ (by first | exact Nat.le_refl _ | (simp; done) | (simp; omega)) _ | with_reducible refine Below.drew ?_)); (with_reducible exact B5.out)
    have H3 := Lib.hid h3
    clear h3
    have cey := Xy2.out.cell
    have fzy := Xy2.out.frozen
    have lby := Xy2.out.lt
    have cex := Xx2.out.cell
    have fzx := Xx2.out.frozen
    have lbx := Xx2.out.lt
    have cer := Xr2.out.cell
    have fzr := Xr2.out.frozen
    have lbr := Xr2.out.lt
    have ceo := Xo2.out.cell
    have fzo := Xo2.out.frozen
    have lbo := Xo2.out.lt
    go_wp2_with fail
    refine (MsgOk_b m true _ H1.out).mono ?_
    rintro e w3 ⟨rfl, hb⟩
    have C : Chg 0 0 w2 w3 := by exact Chg.of_below hb
    clear hb
    clear cey fzy
    clear cex fzx
    clear cer fzr
    clear ceo fzo
    clear lby
    clear lbx
    clear lbr
    clear lbo
    have hs3 := C.size
    have B3 : Hid (Below w.heap.size w w3) := Lib.hid (B2.out.trans (C.under (B := w.heap.size) (by omega) (by omega)))
    clear B2
    have Xx3 : Hid (Blk w3 w.heap.size 27 #[.slice A ln.length c, .slice P lp.length d]) := Lib.hid ((C.block _ Xx2.out.lt (by omega)).trans Xx2.out)
    clear Xx2
    have Xy3 : Hid (Blk w3 (w.heap.size + 1) 51 #[.int .i64 ak, .int .i64 aa, .int .i64 ab, .int .i64 m.k, .int .i64 m.r, .int .i64 m.v, .int .i64 m.p, .int .i64 m.f]) := Lib.hid ((C.block _ Xy2.out.lt (by omega)).trans Xy2.out)
    clear Xy2
    have Xr3 : Hid (Blk w3 (w.heap.size + 1 + 1) 27 #[.slice none 0 0, .slice none 0 0]) := Lib.hid ((C.block _ Xr2.out.lt (by omega)).trans Xr2.out)
    clear Xr2
    have Xo3 : Hid (Blk w3 w1.heap.size 27 #[.slice A1 ln.length c1, .slice P1 lp.length d1]) := Lib.hid ((C.block _ Xo2.out.lt (by omega)).trans Xo2.out)
    clear Xo2
    have On3 := Lib.hid (On2.out.chg C (by omega))
    clear On2
    have Op3 := Lib.hid (Op2.out.chg C (by omega))
    clear Op2
    clear C
    have cey := Xy3.out.cell
    have fzy := Xy3.out.frozen
    have lby := Xy3.out.lt
    have cex := Xx3.out.cell
    have fzx := Xx3.out.frozen
    have lbx := Xx3.out.lt
    have cer := Xr3.out.cell
    have fzr := Xr3.out.frozen
    have lbr := Xr3.out.lt
    have ceo := Xo3.out.cell
    have fzo := Xo3.out.frozen
    have lbo := Xo3.out.lt
    go_wp2_with fail
    refine (Contains_b P lp.length d lp m true _ ((HP.out.below B3.out (Nat.le_refl _)).more B3.out.size) H3.out).mono ?_
    rintro e w4 ⟨rfl, hb⟩
    have C : Chg 0 0 w3 w4 := by exact Chg.of_below hb
    clear hb
    clear cey fzy
    clear cex fzx
    clear cer fzr
    clear ceo fzo
    clear lby
    clear lbx
    clear lbr
    clear lbo
    have hs4 := C.size
    have B4 : Hid (Below w.heap.size w w4) := Lib.hid (B3.out.trans (C.under (B := w.heap.size) (by omega) (by omega)))
    clear B3
    have Xx4 : Hid (Blk w4 w.heap.size 27 #[.slice A ln.length c, .slice P lp.length d]) := Lib.hid ((C.block _ Xx3.out.lt (by omega)).trans Xx3.out)
    clear Xx3
    have Xy4 : Hid (Blk w4 (w.heap.size + 1) 51 #[.int .i64 ak, .int .i64 aa, .int .i64 ab, .int .i64 m.k, .int .i64 m.r, .int .i64 m.v, .int .i64 m.p, .int .i64 m.f]) := Lib.hid ((C.block _ Xy3.out.lt (by omega)).trans Xy3.out)
    clear Xy3
    have Xr4 : Hid (Blk w4 (w.heap.size + 1 + 1) 27 #[.slice none 0 0, .slice none 0 0]) := Lib.hid ((C.block _ Xr3.out.lt (by omega)).trans Xr3.out)
    clear Xr3
    have Xo4 : Hid (Blk w4 w1.heap.size 27 #[.slice A1 ln.length c1, .slice P1 lp.length d1]) := Lib.hid ((C.block _ Xo3.out.lt (by omega)).trans Xo3.out)
    clear Xo3
    have On4 := Lib.hid (On3.out.chg C (by omega))
    clear On3
    have Op4 := Lib.hid (Op3.out.chg C (by omega))
    clear Op3
    clear C
    have ceo := Xo4.out.cell
    have fzo := Xo4.out.frozen
    have lbo := Xo4.out.lt
    have cer := Xr4.out.cell
    have fzr := Xr4.out.frozen
    have lbr := Xr4.out.lt
    have cex := Xx4.out.cell
    have fzx := Xx4.out.frozen
    have lbx := Xx4.out.lt
    have cey := Xy4.out.cell
    have fzy := Xy4.out.frozen
    have lby := Xy4.out.lt
    have HE : Hid (netDoN ln lp ⟨ak, aa, ab, m⟩ = (ln, lp, false)) := Lib.hid (by have h1 := H1.out; have h3 := H3.out; unfold netDoN; simp [hk, lieBad, h1, h2, h3])
    go_wp2_with fail
    refine bodyPost_ret (v := .tuple #[.agg #[.slice A1 ln.length c1, .slice P1 lp.length d1], .bool false]) (by simp [results, Try.results35, go_sem, cer]) rfl ?_
    refine NetDid.mk HE.out rfl rfl (NetIn.close (w := w4) (R := (w.heap.size + 1 + 1)) On4.out (.inl Op4.out) (by (repeat (first | with_reducible refine Chg.setCell ?_ (by first | exact Nat.le_refl _ | (simp; done) | (simp; omega)) (by first | (simp; done) | (simp; omega)) _ | with_reducible refine Chg.alloc ?_ _ | with_reducible refine Chg.drew ?_)); (with_reducible exact Chg.refl _ _ _)) (by omega) (by omega) hw3 (by omega) (by omega)) ?_
    (repeat (first | with_reducible refine Below.setCell ?_ (by first | exact Nat.le_refl _ | (simp; done) | (simp; omega)) _ | with_reducible refine Below.alloc ?_ (by first | exact Nat.le_refl _ | (simp; done) | (simp; omega)) _ | with_reducible refine Below.drew ?_)); (with_reducible exact B4.out)
end Go.Proofs.Ytjgaelnonacdkaa
