/- Nets: the sum of the sizes, copies whose parts lie apart, marks. -/
import Derived.WalkKit
import Derived.WalkSpells
import Derived.WalkLawsBesides
import Derived.Lib.Hide
import Derived.Test.YtjgaelnonacdkaaMNodesMk
namespace Go.Proofs.Ytjgaelnonacdkaa
open Go.RowKit

def sumM (ln : List NodeD) : Nat := (ln.map fun x => x.l.length).sum
theorem sumM_next {ln : List NodeD} {j : Nat} {x : NodeD} (h : ln[j]? = some x) : sumM (ln.take (j + 1)) = sumM (ln.take j) + x.l.length := by
  unfold sumM
  rw [List.take_add_one, h]
  simp
theorem szND_sum (ln : List NodeD) : szND ln = 9 * ln.length + 5 * sumM ln := by
  unfold szND sumM
  induction ln with
  | nil => rfl
  | cons x l ih => simp only [List.map_cons, List.sum_cons, List.length_cons, ih]; omega
theorem sumM_mem {ln : List NodeD} {x : NodeD} (h : x ∈ ln) : x.l.length ≤ sumM ln := by
  unfold sumM
  induction ln with
  | nil => cases h
  | cons y l ih =>
    simp only [List.map_cons, List.sum_cons]
    simp only [List.mem_cons] at h
    rcases h with rfl | h
    · omega
    · have := ih h; omega
def SzN2 (ln : List NodeD) (left : Int) (w : World) (e : Ending) (w' : World) : Prop :=
  ∃ r : Int, e = .returned (.int .i64 r) ∧ (0 ≤ r → r + ln.length + sumM ln ≤ left) ∧ -1 ≤ r ∧ r ≤ left ∧ Below w.heap.size w w'
def SzNet2 (ln : List NodeD) (lp : List NMsgD) (left : Int) (w : World) (e : Ending) (w' : World) : Prop :=
  ∃ r : Int, e = .returned (.int .i64 r) ∧ (0 ≤ r → (ln.length : Int) + sumM ln + lp.length ≤ left) ∧ -1 ≤ r ∧ r ≤ left ∧ Below w.heap.size w w'
/-- a net handed back, its nodes below its pool -/
def NetOut2 (ln : List NodeD) (lp : List NMsgD) (w : World) (e : Ending) (w' : World) : Prop :=
  ∃ A c P d mid, e = .returned (.agg #[.slice A ln.length c, .slice P lp.length d]) ∧ w.heap.size ≤ mid ∧ mid ≤ w'.heap.size ∧ NodesOwn w' w.heap.size mid A ln.length c ln ∧ OwnL msgC 5 49 w' mid w'.heap.size P lp.length d lp ∧ Below w.heap.size w w'

set_option maxHeartbeats 2000000 in
theorem szNodeS2_any (A : Option Addr) (n c : Nat) (left : Int) (ln : List NodeD) (w : World) (hl : NodesRd w w.heap.size A n c ln) (h0 : 0 ≤ left) (h1 : left ≤ 1048576) :
    Calls Try.prog 43 #[.slice A n c, .int .i64 left] w (SzN2 ln left w) := by
  have hn := hl.le
  have hln : ln.length = n := by obtain ⟨_, _, h, _⟩ := hl; exact h
  have HLN := Lib.hid hln
  have HL := Lib.hid hl
  clear hl hln
  by_cases hlt : left < n
  · go_enter Try.func43, Try.ntmps43
    go_wp2
    go_ret
    exact ⟨-1, rfl, by omega, by omega, by omega, Below.refl _ _⟩
  go_enter Try.func43, Try.ntmps43
  go_wp2_with fail
  go_loopw [1, 5] (fun kk i wr => ∃ (j : Nat) (r : Int), j ≤ n ∧ i = .int .i64 j ∧ kk = .int .i64 r ∧ 0 ≤ r ∧ r + n + sumM (ln.take j) = left ∧ Below w.heap.size w wr) (fun _ i _ => n - (intOf i).toNat)
  case atStart => exact ⟨0, left - n, by omega, rfl, rfl, by omega, by simp [sumM], Below.refl _ _⟩
  case round =>
    obtain ⟨j, r, hj, rfl, rfl, hr0, hr1, hb⟩ := hrel
    have hz := hb.size
    by_cases hjn : j < n
    · obtain ⟨b, off, s, A1, n1, c1, l, rfl, hb1, hp, hr, c0, c1', c2, c3, c4, c5, c6, c7, c8, c9⟩ := (HL.out.below hb (Nat.le_refl _)).at_ hjn
      have hn1 := hr.le
      have HR := Lib.hid hr
      have hsm := sumM_next hp
      have hl1 : l.length = n1 := hr.1
      have HR := Lib.hid hr
      clear hp hr
      go_wp2_with fail
      refine (szNode_any s _ _ _ r _ hn1 hr0 (by omega)).mono ?_
      by_cases hlt2 : r < n1
      · rw [if_pos hlt2]
        rintro e w1 ⟨rfl, hb2⟩
        go_wp2
        go_ret
        exact ⟨-1, rfl, by omega, by omega, by omega, hb.trans (hb2.mono hz)⟩
      · rw [if_neg hlt2]
        rintro e w1 ⟨rfl, hb2⟩
        have hr2 : ¬ r - n1 < 0 := by omega
        go_wp2
        go_roundw
        case rel => exact ⟨j + 1, r - n1, by omega, by go_num, rfl, by omega, by omega, hb.trans (hb2.mono hz)⟩
        case measure => simp [intOf]; omega
    · obtain rfl : j = n := by omega
      have hall : ln.take j = ln := List.take_of_length_le (by rw [HLN.out]; exact Nat.le_refl _)
      rw [hall] at hr1
      go_wp2
      go_ret
      exact ⟨r, rfl, fun _ => by rw [HLN.out]; omega, by omega, by omega, hb⟩

theorem szNet2_any (A : Option Addr) (n c : Nat) (P : Option Addr) (p d : Nat) (left : Int) (ln : List NodeD) (lp : List NMsgD) (w : World) (hl : NodesRd w w.heap.size A n c ln) (hp : RdL msgC 5 w w.heap.size P p d lp) (h0 : 0 ≤ left) (h1 : left ≤ 1048576) :
    Calls Try.prog 16 #[.agg #[.slice A n c, .slice P p d], .int .i64 left] w (SzNet2 ln lp left w) := by
  have HL := Lib.hid hl
  have HP := Lib.hid hp
  have hpn := hp.le
  clear hl hp
  go_enter Try.func16, Try.ntmps16
  go_wp2_with fail
  refine (szNodeS2_any A n c left ln _ ?_ h0 h1).mono ?_
  · refine NodesRd.more (B := w.heap.size) ?_ (by first | (simp; done) | (simp; omega))
    repeat refine NodesRd.alloc ?_ (by first | (simp; done) | (simp; omega)) _
    exact HL.out
  rintro e w1 ⟨r, rfl, hr1, hr2, hr3, hb⟩; obtain ⟨hc, hf, hz⟩ := bcell hb
  have HR := Lib.hid hr1; clear hr1
  have hy : w.heap.size + 1 ≤ w1.heap.size := by simp at hz; omega
  have hy0 : w.heap.size < w1.heap.size := by omega
  have HB : Hid (Below w.heap.size w w1) := (by repeat (first | exact Below.refl _ _ | assumption | refine Below.drew ?_ | refine belN ?_ _ | refine Below.alloc ?_ (by first | exact Nat.le_refl _ | (simp; done) | (simp; omega) | omega) _ | refine Below.setCell ?_ (by first | exact Nat.le_refl _ | (simp; done) | (simp; omega) | omega) _ | refine Below.trans ?_ (Below.mono (by assumption) (by first | exact Nat.le_refl _ | (simp; done) | (simp; omega) | omega))))
  by_cases hr : r < 0
  · go_wp2
    go_ret
    exact ⟨-1, rfl, by omega, by omega, by omega, HB.out⟩
  have hr0 : 0 ≤ r := by omega
  by_cases hq : r < p
  · go_wp2_with (go_at_call 44; go_must (refine (szNMsgS_any P p d r _ hpn hr0 (by omega)).mono ?_); go_must (rw [if_pos hq]); rintro e w' ⟨rfl, rfl⟩)
    go_ret
    exact ⟨-1, rfl, by omega, by omega, by omega, HB.out⟩
  · go_wp2_with (go_at_call 44; go_must (refine (szNMsgS_any P p d r _ hpn hr0 (by omega)).mono ?_); go_must (rw [if_neg (show ¬ (r < (p : Int)) by omega)]); rintro e w' ⟨rfl, rfl⟩)
    go_ret
    refine ⟨r - p, rfl, fun _ => by have := HR.out hr0; rw [HP.out.1]; omega, by omega, by omega, HB.out⟩
set_option maxHeartbeats 1000000 in
theorem toNet2_any (A : Option Addr) (c : Nat) (P : Option Addr) (d : Nat) (ln : List NodeD) (lp : List NMsgD) (w : World) (hl : NodesRd w w.heap.size A ln.length c ln) (hp : RdL msgC 5 w w.heap.size P lp.length d lp)
    (hn : ln.length ≤ 1048576) (hm : ∀ x ∈ ln, x.l.length ≤ 1048576) (hpn : lp.length ≤ 1048576) :
    Calls Try.prog 18 #[.agg #[.slice A ln.length c, .slice P lp.length d]] w (NetOut2 ln lp w) := by
  have HL := Lib.hid hl
  have HP := Lib.hid hp
  have HM := Lib.hid hm
  clear hl hp hm
  go_enter Try.func18, Try.ntmps18
  go_wp2_with fail
  refine (toNodeS_any A c ln _ ?_ hn HM.out).mono ?_
  · refine NodesRd.more (B := w.heap.size) ?_ (by first | (simp; done) | (simp; omega))
    repeat refine NodesRd.alloc ?_ (by first | (simp; done) | (simp; omega)) _
    exact HL.out
  rintro e w1 ⟨A1, c1, rfl, ho, hb⟩
  have HO := Lib.hid ho
  clear ho
  obtain ⟨hc, hf, hz⟩ := bcell hb
  have hz' : w.heap.size + 3 ≤ w1.heap.size := by simp at hz; omega
  have hq3 := cell_alloc3 w
  have hq4 := cell_alloc3b w
  have ta0 : w1.cell? ⟨w.heap.size, 0, none⟩ = some (.slice A ln.length c) := by rw [hc _ _ (by simp; omega), hq3]; simp
  have ta1 : w1.cell? ⟨w.heap.size, 1, none⟩ = some (.slice P lp.length d) := by rw [hc _ _ (by simp; omega), hq3]; simp
  have tr0 : w1.cell? ⟨w.heap.size + 1, 0, none⟩ = some (.slice none 0 0) := by rw [hc _ _ (by first | (simp; done) | (simp; omega)), hq4]; simp
  have tr1 : w1.cell? ⟨w.heap.size + 1, 1, none⟩ = some (.slice none 0 0) := by rw [hc _ _ (by first | (simp; done) | (simp; omega)), hq4]; simp
  have to0 : w1.cell? ⟨w.heap.size + 1 + 1, 0, none⟩ = some (.slice none 0 0) := by rw [hc _ _ (by first | (simp; done) | (simp; omega))]; exact (blk_alloc3 w _ _ _ _).cell _
  have to1 : w1.cell? ⟨w.heap.size + 1 + 1, 1, none⟩ = some (.slice none 0 0) := by rw [hc _ _ (by first | (simp; done) | (simp; omega))]; exact (blk_alloc3 w _ _ _ _).cell _
  have fr : ∀ o, w1.frozen? ⟨w.heap.size + 1, o, none⟩ = false := fun o => by rw [hf _ _ (by first | (simp; done) | (simp; omega)), frozen_alloc3b]; simp
  have fo : ∀ o, w1.frozen? ⟨w.heap.size + 1 + 1, o, none⟩ = false := fun o => by rw [hf _ _ (by first | (simp; done) | (simp; omega))]; exact (blk_alloc3 w _ _ _ _).frozen _
  have GB := Lib.hid (Below.trans (show Below w.heap.size w _ by exact (by repeat (first | exact Below.refl _ _ | assumption | refine Below.drew ?_ | refine belN ?_ _ | refine Below.alloc ?_ (by first | exact Nat.le_refl _ | (simp; done) | (simp; omega) | omega) _ | refine Below.setCell ?_ (by first | exact Nat.le_refl _ | (simp; done) | (simp; omega) | omega) _ | refine Below.trans ?_ (Below.mono (by assumption) (by first | exact Nat.le_refl _ | (simp; done) | (simp; omega) | omega))))) (Below.mono hb (by simp; omega)))
  clear hc hf hz hb hq3 hq4
  go_wp2_with fail
  refine (toNMsgS_any P lp.length d lp _ ?_ hpn).mono ?_
  · refine RdL.more (B := w.heap.size) ?_ (by first | (simp; done) | (simp; omega))
    refine RdL.below (B' := w.heap.size) HP.out ?_ (Nat.le_refl _)
    (repeat (first | with_reducible refine Below.setCell ?_ (by first | exact Nat.le_refl _ | (simp; done) | (simp; omega)) _ | with_reducible refine Below.alloc ?_ (by first | exact Nat.le_refl _ | (simp; done) | (simp; omega)) _ | with_reducible refine Below.drew ?_)); (with_reducible exact GB.out)
  intro e w2 h
  obtain ⟨P1, d1, rfl, hown, hr, hb⟩ := h.get HP.out.1
  obtain ⟨P2, d2, he, ho⟩ := OwnL.of_own HP.out.1 hown
  simp only [Value.slice.injEq, true_and] at he
  obtain ⟨rfl, rfl⟩ := he
  have HOP := Lib.hid ho
  have hs2 : w1.heap.size ≤ w2.heap.size := by have := hb.size; simpa using this
  have C2 : Hid (Chg w.heap.size (w.heap.size + 3) w1 w2) := by
    refine Chg.below_trans ?_ hb
    (repeat (first | with_reducible refine Chg.setCell ?_ (by first | exact Nat.le_refl _ | (simp; done) | (simp; omega)) (by first | (simp; done) | (simp; omega)) _ | with_reducible refine Chg.alloc ?_ _ | with_reducible refine Chg.drew ?_)); (with_reducible exact Chg.refl _ _ _)
  have hx0 : w.heap.size < w1.heap.size := by omega
  have hx1 : w.heap.size + 1 < w1.heap.size := by omega
  have hx2 : w.heap.size + 1 + 1 < w1.heap.size := by omega
  obtain ⟨hc, hf, hz⟩ := bcell hb
  have ua1 : w2.cell? ⟨w.heap.size, 1, none⟩ = some (.slice P lp.length d) := by rw [hc _ _ (by first | (simp; done) | (simp; omega))]; go_simp
  have ur0 : w2.cell? ⟨w.heap.size + 1, 0, none⟩ = some (.slice none 0 0) := by rw [hc _ _ (by first | (simp; done) | (simp; omega))]; go_simp
  have ur1 : w2.cell? ⟨w.heap.size + 1, 1, none⟩ = some (.slice none 0 0) := by rw [hc _ _ (by first | (simp; done) | (simp; omega))]; go_simp
  have uo0 : w2.cell? ⟨w.heap.size + 1 + 1, 0, none⟩ = some (.slice A1 ln.length c1) := by rw [hc _ _ (by first | (simp; done) | (simp; omega))]; go_simp
  have uo1 : w2.cell? ⟨w.heap.size + 1 + 1, 1, none⟩ = some (.slice none 0 0) := by rw [hc _ _ (by first | (simp; done) | (simp; omega))]; go_simp
  have vr : ∀ o, w2.frozen? ⟨w.heap.size + 1, o, none⟩ = false := fun o => by rw [hf _ _ (by first | (simp; done) | (simp; omega))]; go_simp
  have vo : ∀ o, w2.frozen? ⟨w.heap.size + 1 + 1, o, none⟩ = false := fun o => by rw [hf _ _ (by first | (simp; done) | (simp; omega))]; go_simp
  have GB2 : Hid (Below w.heap.size w w2) := by
    refine Below.trans ?_ (Below.mono hb (by first | (simp; done) | (simp; omega)))
    (repeat (first | with_reducible refine Below.setCell ?_ (by first | exact Nat.le_refl _ | (simp; done) | (simp; omega)) _ | with_reducible refine Below.alloc ?_ (by first | exact Nat.le_refl _ | (simp; done) | (simp; omega)) _ | with_reducible refine Below.drew ?_)); (with_reducible exact GB.out)
  clear hc hf hz hb h hown hr ho ta0 ta1 tr0 tr1 to0 to1 fr fo
  go_wp2
  refine bodyPost_ret (v := .agg #[.slice A1 ln.length c1, .slice P1 lp.length d1]) (by simp [results, Try.results18, go_sem, ur0, ur1]) rfl ⟨A1, c1, P1, d1, w1.heap.size, rfl, by omega, by simp; omega, ?_, ?_, ?_⟩
  · refine ((HO.out.chg C2.out (.inr (by simp))).chg (lo' := w.heap.size) (hi' := w.heap.size + 3) ?_ (.inr (by simp))).wide (by simp; omega) (by simp)
    (repeat (first | with_reducible refine Chg.setCell ?_ (by first | exact Nat.le_refl _ | (simp; done) | (simp; omega)) (by first | (simp; done) | (simp; omega)) _ | with_reducible refine Chg.alloc ?_ _ | with_reducible refine Chg.drew ?_)); (with_reducible exact Chg.refl _ _ _)
  · refine (HOP.out.chg (lo' := w.heap.size) (hi' := w.heap.size + 3) ?_ (.inr (by simp; omega))).wide (by simp) (by simp)
    (repeat (first | with_reducible refine Chg.setCell ?_ (by first | exact Nat.le_refl _ | (simp; done) | (simp; omega)) (by first | (simp; done) | (simp; omega)) _ | with_reducible refine Chg.alloc ?_ _ | with_reducible refine Chg.drew ?_)); (with_reducible exact Chg.refl _ _ _)
  · (repeat (first | with_reducible refine Below.setCell ?_ (by first | exact Nat.le_refl _ | (simp; done) | (simp; omega)) _ | with_reducible refine Below.alloc ?_ (by first | exact Nat.le_refl _ | (simp; done) | (simp; omega)) _ | with_reducible refine Below.drew ?_)); (with_reducible exact GB2.out)
theorem markNet_any (A : Option Addr) (n c : Nat) (ln : List NodeD) (P : Option Addr) (p d : Nat) (lp : List NMsgD) (lo mid hi k : Nat) (w : World) (h : NodesOwn w lo mid A n c ln) (hp : OwnL msgC 5 49 w mid hi P p d lp)
    (h1 : lo ≤ mid) (h2 : mid ≤ hi) (hh : hi ≤ w.heap.size) (hk0 : 0 < k) (hn : n ≤ 1048576) (hk : k + szND ln ≤ 10000000) (hpn : p ≤ 2097152) :
    Calls Try.prog 14 #[.agg #[.slice A n c, .slice P p d], .int .i64 k] w fun e w' => (∃ r : Nat, e = .returned (.int .i64 r)) ∧ Chg lo hi w w' := by
  have H := Lib.hid h
  have HP := Lib.hid hp
  clear h hp
  go_enter Try.func14, Try.ntmps14
  go_wp2_with fail
  refine (markNodeS_any A n c ln lo mid k _ (by exact H.out.chg ((Chg.refl 0 0 w).alloc _) (.inr (Nat.zero_le _))) hk0 hn hk).mono ?_
  rintro e w1 ⟨rfl, hc, _⟩
  have s1 : w1.cell? ⟨w.heap.size, 1, none⟩ = some (.slice P p d) := by rw [hc.cell (k := w.heap.size) (by simp) (.inr (by omega))]; simp
  have HC := Lib.hid ((((Chg.refl lo mid w).alloc _)).trans hc)
  have HP1 := Lib.hid (HP.out.chg HC.out (.inr (Nat.le_refl _)))
  clear hc
  go_wp2_with fail
  refine (markNMsgS_any 49 P p d lp mid hi (k + szND ln) _ HP1.out (by omega) hpn (by omega)).mono ?_
  rintro e w2 ⟨rfl, _, hg⟩
  have HG := Lib.hid hg
  clear hg
  go_wp2_with fail
  go_ret
  exact ⟨⟨_, rfl⟩, (HC.out.wide (Nat.le_refl _) h2).trans (HG.out.wide h1 (Nat.le_refl _))⟩
end Go.Proofs.Ytjgaelnonacdkaa
