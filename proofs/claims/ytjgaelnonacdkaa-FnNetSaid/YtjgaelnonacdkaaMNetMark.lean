/- Marks in a net of one's own (nodes between m1 and m2, the pool below or above), and that they are held. -/
import Derived.WalkKit
import Derived.WalkSpells
import Derived.WalkLawsBesides
import Derived.Lib.Hide
import Derived.Test.YtjgaelnonacdkaaMNetPlayS
import Derived.Test.YtjgaelnonacdkaaMNet2
import Derived.Test.YtjgaelnonacdkaaMMkNMsg
namespace Go.Proofs.Ytjgaelnonacdkaa
open Go.RowKit

/-- nodes in [a, b), pool in [p1, p2), apart -/
theorem markNetX_keep (A : Option Addr) (n c : Nat) (ln : List NodeD) (P : Option Addr) (p d : Nat) (lp : List NMsgD) (lo hi a b p1 p2 k : Nat) (w : World) (h : NodesOwn w a b A n c ln) (hp : OwnL msgC 5 49 w p1 p2 P p d lp)
    (hap : p2 ≤ a ∨ b ≤ p1) (h1 : lo ≤ a) (h2 : lo ≤ p1) (hb : b ≤ hi) (hp2 : p2 ≤ hi) (hhi : hi ≤ w.heap.size) (hk0 : 0 < k) (hn : n ≤ 1048576) (hk : k + szND ln ≤ 10000000) (hpn : p ≤ 2097152) :
    Calls Try.prog 14 #[.agg #[.slice A n c, .slice P p d], .int .i64 k] w fun e w' => KeepB w w' ∧ e = .returned (.int .i64 ((k + szND ln + p * 5 : Nat) : Int)) ∧ Chg lo hi w w' ∧
      ∃ lm, NodesRd w' w'.heap.size A n c lm ∧ MixD k ln n lm ∧ RdL msgC 5 w' w'.heap.size P p d (marksNMsg (k + szND ln) p) := by
  have H := Lib.hid h
  have HP := Lib.hid hp
  clear h hp
  go_enter Try.func14, Try.ntmps14
  go_wp2_with fail
  refine (markNodeS_keep A n c ln a b k _ (by exact H.out.chg ((Chg.refl 0 0 w).alloc _) (.inr (Nat.zero_le _))) hk0 hn hk).mono ?_
  rintro e w1 ⟨hkp, rfl, hc, lm, ho, hm⟩
  have KP1 : Hid (KeepB w w1) := Lib.hid ((KeepB.below ((Below.refl _ _).alloc (Nat.le_refl _) _)).trans hkp)
  clear hkp
  have s1 : w1.cell? ⟨w.heap.size, 1, none⟩ = some (.slice P p d) := by rw [hc.cell (k := w.heap.size) (by simp) (.inr (by omega))]; simp
  have HC := Lib.hid ((((Chg.refl a b w).alloc _)).trans hc)
  have HP1 := Lib.hid (HP.out.chg HC.out (by omega))
  have HO := Lib.hid ho
  have HM := Lib.hid hm
  clear hc ho hm
  go_wp2_with fail
  obtain ⟨a1, b1, hp1, hab⟩ := HP1.out.narrow
  have HPN := Lib.hid hp1
  have HAB := Lib.hid hab
  clear hp1 hab
  refine (markNMsgS_any 49 P p d lp a1 b1 (k + szND ln) _ HPN.out (by omega) hpn (by omega)).mono ?_
  rintro e w2 ⟨rfl, hq0, hg0⟩
  have KP2 : Hid (KeepB w w2) := Lib.hid (KP1.out.trans (by
    rcases HAB.out with e | ⟨rfl, _, _, _, cs, hcs⟩
    · subst e; exact KeepB.none hg0
    · exact KeepB.chg hg0 hcs (by decide)))
  have hg : Chg p1 p2 w1 w2 := by
    rcases HAB.out with e | ⟨rfl, _, h1', h2', cs, hcs⟩
    · subst e; exact ⟨hg0.os, hg0.tape, hg0.output, hg0.size, fun k hk _ => hg0.block k hk (by omega)⟩
    · exact hg0.wide h1' h2'
  have hq : OwnL msgC 5 49 w2 p1 p2 P p d (marksNMsg (k + szND ln) p) := by
    rcases HAB.out with e | ⟨rfl, _, h1', h2', cs, hcs⟩
    · subst e
      obtain ⟨u1, u2 | ⟨g, cur, _, u3, u4, _⟩⟩ := hq0
      · exact ⟨u1, .inl u2⟩
      · omega
    · exact hq0.wide h1' h2'
  clear hq0 hg0
  have HG := Lib.hid hg
  have HQ := Lib.hid hq
  clear hg hq
  have hz1 := HC.out.size
  have hz2 := HG.out.size
  go_wp2_with fail
  go_ret
  refine ⟨KP2.out, rfl, (HC.out.wide h1 hb).trans (HG.out.wide h2 hp2), lm, (HO.out.chg HG.out (by omega)).rd.more (by omega), HM.out, (HQ.out.rd msgC_len).more (by omega)⟩
theorem markNetX_any (A : Option Addr) (n c : Nat) (ln : List NodeD) (P : Option Addr) (p d : Nat) (lp : List NMsgD) (lo hi a b p1 p2 k : Nat) (w : World) (h : NodesOwn w a b A n c ln) (hp : OwnL msgC 5 49 w p1 p2 P p d lp)
    (hap : p2 ≤ a ∨ b ≤ p1) (h1 : lo ≤ a) (h2 : lo ≤ p1) (hb : b ≤ hi) (hp2 : p2 ≤ hi) (hhi : hi ≤ w.heap.size) (hk0 : 0 < k) (hn : n ≤ 1048576) (hk : k + szND ln ≤ 10000000) (hpn : p ≤ 2097152) :
    Calls Try.prog 14 #[.agg #[.slice A n c, .slice P p d], .int .i64 k] w fun e w' => e = .returned (.int .i64 ((k + szND ln + p * 5 : Nat) : Int)) ∧ Chg lo hi w w' ∧
      ∃ lm, NodesRd w' w'.heap.size A n c lm ∧ MixD k ln n lm ∧ RdL msgC 5 w' w'.heap.size P p d (marksNMsg (k + szND ln) p) :=
  (markNetX_keep A n c ln P p d lp lo hi a b p1 p2 k w h hp hap h1 h2 hb hp2 hhi hk0 hn hk hpn).mono fun _ _ h => h.2
theorem heldNetX_any (A : Option Addr) (n c : Nat) (ln lm : List NodeD) (P : Option Addr) (p d : Nat) (k : Nat) (w : World) (h : NodesRd w w.heap.size A n c lm) (hm : MixD k ln n lm) (hp : RdL msgC 5 w w.heap.size P p d (marksNMsg (k + szND ln) p)) (hk0 : 0 < k) (hn : n ≤ 1048576) (hk : k + szND ln ≤ 10000000) (hpn : p ≤ 2097152) :
    Calls Try.prog 15 #[.agg #[.slice A n c, .slice P p d], .int .i64 k] w fun e w' => e = .returned (.int .i64 ((k + szND ln + p * 5 : Nat) : Int)) ∧ Below w.heap.size w w' := by
  have H := Lib.hid h
  have HM := Lib.hid hm
  have HP := Lib.hid hp
  clear h hm hp
  have hnn : ¬ ((k + szND ln : Nat) : Int) < 0 := by omega
  have hnn0 : ¬ ((k + szND ln + p * 5 : Nat) : Int) < 0 := by omega
  go_enter Try.func15, Try.ntmps15
  go_wp2_with fail
  refine (heldNodeS_any A n c ln lm k _ (by exact (H.out.alloc (Nat.le_refl _) _).more (by simp)) HM.out hk0 hn hk).mono ?_
  rintro e w1 ⟨rfl, hb⟩
  obtain ⟨hc, hf, hz⟩ := bcell hb
  have s1 : w1.cell? ⟨w.heap.size, 1, none⟩ = some (.slice P p d) := by rw [hc _ _ (by simp)]; simp
  have HB : Hid (Below w.heap.size w w1) := (by repeat (first | exact Below.refl _ _ | assumption | refine Below.drew ?_ | refine belN ?_ _ | refine Below.alloc ?_ (by first | exact Nat.le_refl _ | (simp; done) | (simp; omega) | omega) _ | refine Below.setCell ?_ (by first | exact Nat.le_refl _ | (simp; done) | (simp; omega) | omega) _ | refine Below.trans ?_ (Below.mono (by assumption) (by first | exact Nat.le_refl _ | (simp; done) | (simp; omega) | omega))))
  have hsz := HB.out.size
  clear hc hf hz hb
  go_wp2_with fail
  refine (heldNMsgS_any P p d (k + szND ln) _ ((HP.out.below HB.out (Nat.le_refl _)).more hsz) (by omega) (by omega) (by omega)).mono ?_
  rintro e w2 ⟨rfl, hb⟩
  have HB2 := Lib.hid (HB.out.trans (hb.mono HB.out.size))
  clear hb
  go_wp2_with fail
  go_ret
  exact ⟨rfl, HB2.out⟩
end Go.Proofs.Ytjgaelnonacdkaa
