/- NetMark, NetSmall, NetAp: joined into one text. -/
import Derived.WalkKit
import Derived.WalkSpells
import Derived.WalkLawsBesides
import Derived.Lib.Hide
import Derived.Test.YtjgaelnonacdkaaMNetPlayS
import Derived.Test.YtjgaelnonacdkaaG35
import Derived.Test.YtjgaelnonacdkaaMMkNMsg
import Derived.Test.YtjgaelnonacdkaaG28
namespace Go.Proofs.Ytjgaelnonacdkaa
open Go.RowKit

/-- nodes in [a, b), pool in [p1, p2), apart -/
theorem markNetX_keep (A : Option Addr) (n c : Nat) (ln : List NodeD) (P : Option Addr) (p d : Nat) (lp : List NMsgD) (lo hi a b p1 p2 k : Nat) (w : World) (h : NodesOwn w a b A n c ln) (hp : OwnL msgC 5 49 w p1 p2 P p d lp)
    (hap : p2 ≤ a ∨ b ≤ p1) (h1 : lo ≤ a) (h2 : lo ≤ p1) (hb : b ≤ hi) (hp2 : p2 ≤ hi) (hhi : hi ≤ w.heap.size) (hk0 : 0 < k) (hn : n ≤ 1048576) (hk : k + szND ln ≤ 10000000) (hpn : p ≤ 2097152) :
    Calls Try.prog 14 #[.agg #[.slice A n c, .slice P p d], .int .i64 k] w fun e w' => KeepB w w' ∧ e = .returned (.int .i64 ((k + szND ln + p * 5 : Nat) : Int)) ∧ Chg lo hi w w' ∧
      ∃ lm, NodesRd w' w'.heap.size A n c lm ∧ MixD k ln n lm ∧ RdL msgC 5 w' w'.heap.size P p d (marksNMsg (k + szND ln) p) := by
  have H := Lib.hid h
  have HP := Lib.hid hp
  clear h hp
  go_enter Try.func14, Try.ntmps14
  go_wp2_with fail
  refine (markNodeS_keep A n c ln a b k _ (by exact H.out.chg ((Chg.refl 0 0 w).alloc _) (.inr (Nat.zero_le _))) hk0 hn hk).mono ?_
  rintro e w1 ⟨hkp, rfl, hc, lm, ho, hm⟩
  have KP1 : Hid (KeepB w w1) := Lib.hid ((KeepB.below ((Below.refl _ _).alloc (Nat.le_refl _) _)).trans hkp)
  clear hkp
  have s1 : w1.cell? ⟨w.heap.size, 1, none⟩ = some (.slice P p d) := by rw [hc.cell (k := w.heap.size) (by simp) (.inr (by omega))]; simp
  have HC := Lib.hid ((((Chg.refl a b w).alloc _)).trans hc)
  have HP1 := Lib.hid (HP.out.chg HC.out (by omega))
  have HO := Lib.hid ho
  have HM := Lib.hid hm
  clear hc ho hm
  go_wp2_with fail
  obtain ⟨a1, b1, hp1, hab⟩ := HP1.out.narrow
  have HPN := Lib.hid hp1
  have HAB := Lib.hid hab
  clear hp1 hab
  refine (markNMsgS_any 49 P p d lp a1 b1 (k + szND ln) _ HPN.out (by omega) hpn (by omega)).mono ?_
  rintro e w2 ⟨rfl, hq0, hg0⟩
  have KP2 : Hid (KeepB w w2) := Lib.hid (KP1.out.trans (by
    rcases HAB.out with e | ⟨rfl, _, _, _, cs, hcs⟩
    · subst e; exact KeepB.none hg0
    · exact KeepB.chg hg0 hcs (by decide)))
  have hg : Chg p1 p2 w1 w2 := by
    rcases HAB.out with e | ⟨rfl, _, h1', h2', cs, hcs⟩
    · subst e; exact ⟨hg0.os, hg0.tape, hg0.output, hg0.size, fun k hk _ => hg0.block k hk (by omega)⟩
    · exact hg0.wide h1' h2'
  have hq : OwnL msgC 5 49 w2 p1 p2 P p d (marksNMsg (k + szND ln) p) := by
    rcases HAB.out with e | ⟨rfl, _, h1', h2', cs, hcs⟩
    · subst e
      obtain ⟨u1, u2 | ⟨g, cur, _, u3, u4, _⟩⟩ := hq0
      · exact ⟨u1, .inl u2⟩
      · omega
    · exact hq0.wide h1' h2'
  clear hq0 hg0
  have HG := Lib.hid hg
  have HQ := Lib.hid hq
  clear hg hq
  have hz1 := HC.out.size
  have hz2 := HG.out.size
  go_wp2_with fail
  go_ret
  refine ⟨KP2.out, rfl, (HC.out.wide h1 hb).trans (HG.out.wide h2 hp2), lm, (HO.out.chg HG.out (by omega)).rd.more (by omega), HM.out, (HQ.out.rd msgC_len).more (by omega)⟩
theorem markNetX_any (A : Option Addr) (n c : Nat) (ln : List NodeD) (P : Option Addr) (p d : Nat) (lp : List NMsgD) (lo hi a b p1 p2 k : Nat) (w : World) (h : NodesOwn w a b A n c ln) (hp : OwnL msgC 5 49 w p1 p2 P p d lp)
    (hap : p2 ≤ a ∨ b ≤ p1) (h1 : lo ≤ a) (h2 : lo ≤ p1) (hb : b ≤ hi) (hp2 : p2 ≤ hi) (hhi : hi ≤ w.heap.size) (hk0 : 0 < k) (hn : n ≤ 1048576) (hk : k + szND ln ≤ 10000000) (hpn : p ≤ 2097152) :
    Calls Try.prog 14 #[.agg #[.slice A n c, .slice P p d], .int .i64 k] w fun e w' => e = .returned (.int .i64 ((k + szND ln + p * 5 : Nat) : Int)) ∧ Chg lo hi w w' ∧
      ∃ lm, NodesRd w' w'.heap.size A n c lm ∧ MixD k ln n lm ∧ RdL msgC 5 w' w'.heap.size P p d (marksNMsg (k + szND ln) p) :=
  (markNetX_keep A n c ln P p d lp lo hi a b p1 p2 k w h hp hap h1 h2 hb hp2 hhi hk0 hn hk hpn).mono fun _ _ h => h.2
theorem heldNetX_any (A : Option Addr) (n c : Nat) (ln lm : List NodeD) (P : Option Addr) (p d : Nat) (k : Nat) (w : World) (h : NodesRd w w.heap.size A n c lm) (hm : MixD k ln n lm) (hp : RdL msgC 5 w w.heap.size P p d (marksNMsg (k + szND ln) p)) (hk0 : 0 < k) (hn : n ≤ 1048576) (hk : k + szND ln ≤ 10000000) (hpn : p ≤ 2097152) :
    Calls Try.prog 15 #[.agg #[.slice A n c, .slice P p d], .int .i64 k] w fun e w' => e = .returned (.int .i64 ((k + szND ln + p * 5 : Nat) : Int)) ∧ Below w.heap.size w w' := by
  have H := Lib.hid h
  have HM := Lib.hid hm
  have HP := Lib.hid hp
  clear h hm hp
  have hnn : ¬ ((k + szND ln : Nat) : Int) < 0 := by omega
  have hnn0 : ¬ ((k + szND ln + p * 5 : Nat) : Int) < 0 := by omega
  go_enter Try.func15, Try.ntmps15
  go_wp2_with fail
  refine (heldNodeS_any A n c ln lm k _ (by exact (H.out.alloc (Nat.le_refl _) _).more (by simp)) HM.out hk0 hn hk).mono ?_
  rintro e w1 ⟨rfl, hb⟩
  obtain ⟨hc, hf, hz⟩ := bcell hb
  have s1 : w1.cell? ⟨w.heap.size, 1, none⟩ = some (.slice P p d) := by rw [hc _ _ (by simp)]; simp
  have HB : Hid (Below w.heap.size w w1) := (by repeat (first | exact Below.refl _ _ | assumption | refine Below.drew ?_ | refine belN ?_ _ | refine Below.alloc ?_ (by first | exact Nat.le_refl _ | (simp; done) | (simp; omega) | omega) _ | refine Below.setCell ?_ (by first | exact Nat.le_refl _ | (simp; done) | (simp; omega) | omega) _ | refine Below.trans ?_ (Below.mono (by assumption) (by first | exact Nat.le_refl _ | (simp; done) | (simp; omega) | omega))))
  have hsz := HB.out.size
  clear hc hf hz hb
  go_wp2_with fail
  refine (heldNMsgS_any P p d (k + szND ln) _ ((HP.out.below HB.out (Nat.le_refl _)).more hsz) (by omega) (by omega) (by omega)).mono ?_
  rintro e w2 ⟨rfl, hb⟩
  have HB2 := Lib.hid (HB.out.trans (hb.mono HB.out.size))
  clear hb
  go_wp2_with fail
  go_ret
  exact ⟨rfl, HB2.out⟩
end Go.Proofs.Ytjgaelnonacdkaa
namespace Go.Proofs.Ytjgaelnonacdkaa
open Go.RowKit

theorem szND_leB : ∀ ln : List NodeD, (∀ x ∈ ln, x.l.length ≤ 90) → szND ln ≤ 459 * ln.length
  | [], _ => by simp [szND]
  | x :: ln, h => by
    have h1 := szND_leB ln fun y hy => h y (List.mem_cons_of_mem _ hy)
    have h2 := h x (List.mem_cons_self ..)
    unfold szND at h1 ⊢
    rw [List.map_cons, List.sum_cons, List.length_cons]
    omega
theorem netB_small {ln : List NodeD} {lp : List NMsgD} (h : netB ln lp = true) : szND ln ≤ 1000000 ∧ ln.length ≤ 3 ∧ lp.length ≤ 150 ∧ ∀ x ∈ ln, x.l.length ≤ 1048576 := by
  obtain ⟨h3, hpk, hp150, hnodes⟩ := netB_iff.1 h
  have hm : ∀ x ∈ ln, x.l.length ≤ 90 := fun x hx => by
    obtain ⟨i, hi⟩ := List.mem_iff_getElem?.1 hx
    have := (hnodes i x hi).1.len
    omega
  have := szND_leB ln hm
  rw [h3] at this
  exact ⟨by omega, by omega, by omega, fun x hx => by have := hm x hx; omega⟩
theorem playN_small (l : List ActD) : szND (playN l).1.1 ≤ 1000000 ∧ (playN l).1.1.length ≤ 3 ∧ (playN l).1.2.length ≤ 150 ∧ ∀ x ∈ (playN l).1.1, x.l.length ≤ 1048576 := by
  unfold playN
  split
  · exact ⟨by decide, by decide, by decide, fun x hx => by cases hx⟩
  · exact netB_small (netI_play l).netB
theorem doN_small {ln : List NodeD} {lp : List NMsgD} (a : ActD) : szND (doN ln lp a).1 ≤ 1000000 ∧ (doN ln lp a).1.length ≤ 3 ∧ (doN ln lp a).2.1.length ≤ 150 ∧ ∀ x ∈ (doN ln lp a).1, x.l.length ≤ 1048576 := by
  unfold doN
  split
  · rename_i h
    exact netB_small (netDo_ok h a).1
  · exact ⟨by decide, by decide, by decide, fun x hx => by cases hx⟩
end Go.Proofs.Ytjgaelnonacdkaa
namespace Go.Proofs.Ytjgaelnonacdkaa
open Go.RowKit

structure NetAp (w : World) (lo hi : Nat) (A : Option Addr) (c : Nat) (P : Option Addr) (d : Nat) (ln : List NodeD) (lp : List NMsgD) : Prop where
  ex : ∃ a b p1 p2, NodesOwn w a b A ln.length c ln ∧ OwnL msgC 5 49 w p1 p2 P lp.length d lp ∧ (p2 ≤ a ∨ b ≤ p1) ∧ lo ≤ a ∧ lo ≤ p1 ∧ b ≤ hi ∧ p2 ≤ hi
  hl : lo ≤ hi
  hh : hi ≤ w.heap.size
theorem NodesOwn.turn {w w' : World} {lo hi n c : Nat} {A : Option Addr} {ln : List NodeD} (h : NodesOwn w lo hi A n c ln) (hE : BoxTurn 27 w w') : NodesOwn w' lo hi A n c ln := by
  obtain ⟨lv, a, b, d, e⟩ := h
  refine ⟨lv, OwnL.turn hE (by decide) a, b, fun i v hv => ?_, e⟩
  obtain ⟨x, p, q, r⟩ := d i v hv
  exact ⟨x, p, q, OwnL.turn hE (by decide) r⟩
section
variable {w w' : World} {lo hi a b c d : Nat} {A P : Option Addr} {ln : List NodeD} {lp : List NMsgD}
theorem NetAp.chg (h : NetAp w lo hi A c P d ln lp) (hc : Chg a b w w') (hab : hi ≤ a ∨ b ≤ lo) : NetAp w' lo hi A c P d ln lp := by
  obtain ⟨⟨x, y, p1, p2, h1, h2, h3, h4, h5, h6, h7⟩, hl, hh⟩ := h
  exact ⟨⟨x, y, p1, p2, h1.chg hc (by omega), h2.chg hc (by omega), h3, h4, h5, h6, h7⟩, hl, Nat.le_trans hh hc.size⟩
theorem NetAp.below (h : NetAp w lo hi A c P d ln lp) (hb : Below w.heap.size w w') : NetAp w' lo hi A c P d ln lp := h.chg (Chg.of_below (lo := 0) (hi := 0) hb) (.inr (Nat.zero_le _))
theorem NetAp.turn (h : NetAp w lo hi A c P d ln lp) (hE : BoxTurn 27 w w') : NetAp w' lo hi A c P d ln lp := by
  obtain ⟨⟨x, y, p1, p2, h1, h2, h3, h4, h5, h6, h7⟩, hl, hh⟩ := h
  exact ⟨⟨x, y, p1, p2, h1.turn hE, OwnL.turn hE (by decide) h2, h3, h4, h5, h6, h7⟩, hl, Nat.le_trans hh hE.size⟩
theorem NetAp.rdn (h : NetAp w lo hi A c P d ln lp) : NodesRd w w.heap.size A ln.length c ln := by
  obtain ⟨⟨x, y, p1, p2, h1, h2, h3, h4, h5, h6, h7⟩, hl, hh⟩ := h
  exact h1.rd.more (by omega)
theorem NetAp.rdp (h : NetAp w lo hi A c P d ln lp) : RdL msgC 5 w w.heap.size P lp.length d lp := by
  obtain ⟨⟨x, y, p1, p2, h1, h2, h3, h4, h5, h6, h7⟩, hl, hh⟩ := h
  exact (h2.rd msgC_len).more (by omega)
theorem NetAp.of_in {m1 m2 : Nat} (h : NetIn w lo m1 m2 A c P d ln lp) : NetAp w lo w.heap.size A c P d ln lp := by
  have h1 := h.h1
  have h2 := h.h2
  have h3 := h.h3
  refine ⟨?_, by omega, Nat.le_refl _⟩
  rcases h.pool with k | k
  · exact ⟨m1, m2, lo, m1, h.nodes, k, .inl (Nat.le_refl _), by omega, by omega, by omega, by omega⟩
  · exact ⟨m1, m2, m2, w.heap.size, h.nodes, k, .inr (Nat.le_refl _), by omega, by omega, by omega, by omega⟩
end
/-- a net as a value -/
def NetVv (lo0 : Nat) (ln : List NodeD) (lp : List NMsgD) (v : Value) (w : World) : Prop :=
  ∃ A c P d lo hi, v = .agg #[.slice A ln.length c, .slice P lp.length d] ∧ lo0 ≤ lo ∧ NetAp w lo hi A c P d ln lp
/-- a net and a bool -/
def NetG (r : List NodeD × List NMsgD × Bool) (lo0 : Nat) (v : Value) (w : World) : Prop :=
  ∃ A c P d lo hi, v = .tuple #[.agg #[.slice A r.1.length c, .slice P r.2.1.length d], .bool r.2.2] ∧ lo0 ≤ lo ∧ NetAp w lo hi A c P d r.1 r.2.1
section
variable {r : List NodeD × List NMsgD × Bool} {lo0 : Nat} {v v' : Value} {w w' : World} {ln : List NodeD} {lp : List NMsgD}
theorem NetG.below (h : NetG r lo0 v w) (hb : Below w.heap.size w w') : NetG r lo0 v w' := by
  obtain ⟨A, c, P, d, lo, hi, e, h1, h2⟩ := h
  exact ⟨A, c, P, d, lo, hi, e, h1, h2.below hb⟩
theorem NetG.turn (h : NetG r lo0 v w) (hb : BoxTurn 27 w w') : NetG r lo0 v w' := by
  obtain ⟨A, c, P, d, lo, hi, e, h1, h2⟩ := h
  exact ⟨A, c, P, d, lo, hi, e, h1, h2.turn hb⟩
theorem NetG.slot (h : NetG r lo0 v w) (e : v' = v) : NetG r lo0 v' w := e ▸ h
theorem NetVv.below (h : NetVv lo0 ln lp v w) (hb : Below w.heap.size w w') : NetVv lo0 ln lp v w' := by
  obtain ⟨A, c, P, d, lo, hi, e, h1, h2⟩ := h
  exact ⟨A, c, P, d, lo, hi, e, h1, h2.below hb⟩
theorem NetVv.turn (h : NetVv lo0 ln lp v w) (hb : BoxTurn 27 w w') : NetVv lo0 ln lp v w' := by
  obtain ⟨A, c, P, d, lo, hi, e, h1, h2⟩ := h
  exact ⟨A, c, P, d, lo, hi, e, h1, h2.turn hb⟩
theorem NetVv.slot (h : NetVv lo0 ln lp v w) (e : v' = v) : NetVv lo0 ln lp v' w := e ▸ h
theorem NetOut2.ap (h : NetOut2 ln lp w (.returned v) w') : (∃ A c P d, v = .agg #[.slice A ln.length c, .slice P lp.length d] ∧ NetAp w' w.heap.size w'.heap.size A c P d ln lp) ∧ Below w.heap.size w w' := by
  obtain ⟨A, c, P, d, mid, e, h1, h2, h3, h4, h5⟩ := h
  simp only [Ending.returned.injEq] at e
  subst e
  exact ⟨⟨A, c, P, d, rfl, ⟨_, _, _, _, h3, h4, .inr (Nat.le_refl _), Nat.le_refl _, h1, h2, Nat.le_refl _⟩, h5.size, Nat.le_refl _⟩, h5⟩
theorem NetDid.ap (h : NetDid r w (.returned v) w') : NetG r w.heap.size v w' ∧ Below w.heap.size w w' := by
  obtain ⟨A, c, P, d, m1, m2, e, h1, h2⟩ := h
  simp only [Ending.returned.injEq] at e
  subst e
  exact ⟨⟨A, c, P, d, _, _, rfl, Nat.le_refl _, NetAp.of_in h1⟩, h2⟩
theorem NetSDid.f (h : NetSDid r w (.returned v) w') : NetF r w.heap.size v w' ∧ Below w.heap.size w w' := by
  obtain ⟨A, c, P, d, lo, hi, e, h1, h2, h3⟩ := h
  simp only [Ending.returned.injEq] at e
  subst e
  exact ⟨⟨A, c, P, d, lo, hi, rfl, h1, h2⟩, h3⟩
end
end Go.Proofs.Ytjgaelnonacdkaa
