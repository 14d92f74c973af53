/- NodeCopy, Honest, Held: joined into one text. -/
import Derived.Deep.DeepMust
import Derived.WalkKit
import Derived.WalkSpells
import Derived.WalkLawsBesides
import Derived.Lib.Hide
import Derived.Test.YtjgaelnonacdkaaG14
import Derived.Test.YtjgaelnonacdkaaMNetOk
import Derived.Test.YtjgaelnonacdkaaG10
namespace Go.Proofs.Ytjgaelnonacdkaa
open Go.RowKit

theorem infoMsgC : (Try.prog.info? 49).map (fun i => (i.zero, i.size, i.bytes)) = some (some (.agg #[.int .i64 0, .int .i64 0, .int .i64 0, .int .i64 0, .int .i64 0]), 5, 40) := by kernel_rfl
theorem msgs_one (l : List NMsgD) : ∀ u ∈ l.flatMap msgC, u.oneCell' = true := by
  intro u hu
  obtain ⟨m, _, hm⟩ := List.mem_flatMap.1 hu
  simp only [msgC, List.mem_cons, List.not_mem_nil, or_false] at hm
  rcases hm with rfl | rfl | rfl | rfl | rfl <;> rfl
/-- a node handed back with messages of its own -/
def NodeOwn (s : NodeS) (l : List NMsgD) (w : World) (e : Ending) (w' : World) : Prop :=
  ∃ A c, e = .returned (.agg #[.int .i64 s.me, .int .i64 s.round, .int .i64 s.step, .int .i64 s.lv, .int .i64 s.lr, .int .i64 s.vv, .int .i64 s.vr, .int .i64 s.polka, .int .i64 s.dec, .slice A l.length c]) ∧ OwnL msgC 5 49 w' w.heap.size w'.heap.size A l.length c l ∧ Below w.heap.size w w'

set_option maxRecDepth 100000 in
set_option maxHeartbeats 2000000 in
theorem copyNode_any (s : NodeS) (A : Option Addr) (c : Nat) (l : List NMsgD) (w : World) (hl : RdL msgC 5 w w.heap.size A l.length c l) (hn : l.length ≤ 1048576) :
    Calls Try.prog 98 #[.agg #[.int .i64 s.me, .int .i64 s.round, .int .i64 s.step, .int .i64 s.lv, .int .i64 s.lr, .int .i64 s.vv, .int .i64 s.vr, .int .i64 s.polka, .int .i64 s.dec, .slice A l.length c]] w (NodeOwn s l w) := by
  obtain ⟨i0, hi, hz0, hz1, hz2⟩ := info_parts infoMsgC
  have HL := Lib.hid hl
  have hcap := hl.2.2.2.1
  clear hl
  go_enter Try.func98, Try.ntmps98
  go_wp2_with (at_builtin; refine wpList_app_rd _ rfl _ _ _ rfl (w.heap.size + 2) 49 i0 _ 5 40 Try.underlying25 hi hz0 hz1 hz2 rfl (by decide) (.slice none 0 0) 0 [] rfl ⟨by simp, .inl ⟨rfl, rfl⟩⟩ w.heap.size A l.length c (l.flatMap msgC) rfl (by exact ((HL.out.alloc (Nat.le_refl _) _).alloc (by simp) _).2) (msgs_one l) (by unfold maxLen; omega) (by omega) (by simp) ?_)
  intro v1 w1 hown hg hat
  clear hat
  (try simp only [Nat.zero_add, List.nil_append] at hown)
  obtain ⟨A1, c1, rfl, ho⟩ := OwnL.of_own HL.out.1 hown
  have HO := Lib.hid ho
  have HG := Lib.hid ((Below.refl _ _).grown hg (Nat.le_refl _) (fun k hk => by cases hk))
  clear hown hg ho
  obtain ⟨hc, hf, hz⟩ := bcell HG.out
  have hz' : w.heap.size + 2 ≤ w1.heap.size := by simpa using hz
  have h1 : w.heap.size < w1.heap.size := by omega
  have h2 : w.heap.size + 1 < w1.heap.size := by omega
  have ta : ∀ o, w1.cell? ⟨w.heap.size, o, none⟩ = _ := fun o => hc _ _ (by simp; omega)
  have tr : ∀ o, w1.cell? ⟨w.heap.size + 1, o, none⟩ = _ := fun o => hc _ _ (by simp)
  have fa : ∀ o, w1.frozen? ⟨w.heap.size, o, none⟩ = _ := fun o => hf _ _ (by simp; omega)
  have fr : ∀ o, w1.frozen? ⟨w.heap.size + 1, o, none⟩ = _ := fun o => hf _ _ (by simp)
  have HB : Hid (Below w.heap.size w w1) := Below.trans (by exact (by repeat (first | exact Below.refl _ _ | assumption | refine Below.drew ?_ | refine belN ?_ _ | refine Below.alloc ?_ (by first | exact Nat.le_refl _ | (simp; done) | (simp; omega) | omega) _ | refine Below.setCell ?_ (by first | exact Nat.le_refl _ | (simp; done) | (simp; omega) | omega) _ | refine Below.trans ?_ (Below.mono (by assumption) (by first | exact Nat.le_refl _ | (simp; done) | (simp; omega) | omega))))) (Below.mono HG.out (by simp; omega))
  clear hc hf hz
  go_wp2
  refine bodyPost_ret (v := .agg #[.int .i64 s.me, .int .i64 s.round, .int .i64 s.step, .int .i64 s.lv, .int .i64 s.lr, .int .i64 s.vv, .int .i64 s.vr, .int .i64 s.polka, .int .i64 s.dec, .slice A1 l.length c1]) (by simp [results, Try.results98, go_sem, tr]) rfl ⟨A1, c1, rfl, ?_, ?_⟩
  · refine ((HO.out.chg (lo' := w.heap.size) (hi' := w.heap.size + 2) ?_ (.inr (by omega))).wide (by omega) (by simp))
    (repeat (first | with_reducible refine Chg.setCell ?_ (by first | exact Nat.le_refl _ | (simp; done) | (simp; omega)) (by first | (simp; done) | (simp; omega)) _ | with_reducible refine Chg.alloc ?_ _ | with_reducible refine Chg.drew ?_)); (with_reducible exact Chg.refl _ _ _)
  · repeat with_reducible refine Below.setCell ?_ (by first | with_reducible exact Nat.le_refl _ | (simp; done) | (simp; omega)) _
    with_reducible exact HB.out

set_option maxRecDepth 100000 in
set_option maxHeartbeats 2000000 in
theorem l16Copy_any (s : NodeS) (A : Option Addr) (c : Nat) (l : List NMsgD) (w : World) (hl : RdL msgC 5 w w.heap.size A l.length c l) (hn : l.length ≤ 1048576) :
    Calls Try.prog 82 #[.agg #[.int .i64 s.me, .int .i64 s.round, .int .i64 s.step, .int .i64 s.lv, .int .i64 s.lr, .int .i64 s.vv, .int .i64 s.vr, .int .i64 s.polka, .int .i64 s.dec, .slice A l.length c]] w (NodeOwn s l w) := by
  obtain ⟨i0, hi, hz0, hz1, hz2⟩ := info_parts infoMsgC
  have HL := Lib.hid hl
  have hcap := hl.2.2.2.1
  clear hl
  go_enter Try.func82, Try.ntmps82
  go_wp2_with (at_builtin; refine wpList_app_rd _ rfl _ _ _ rfl (w.heap.size + 2) 49 i0 _ 5 40 Try.underlying25 hi hz0 hz1 hz2 rfl (by decide) (.slice (some ⟨w.heap.size + 2, 0, none⟩) 0 0) 0 [] rfl (by exact ⟨by simp, .inr ⟨w.heap.size + 2, 0, #[], rfl, Nat.le_refl _, by (have h := heap_alloc_new ((w.alloc (.cells #[.int .i64 s.me, .int .i64 s.round, .int .i64 s.step, .int .i64 s.lv, .int .i64 s.lr, .int .i64 s.vv, .int .i64 s.vr, .int .i64 s.polka, .int .i64 s.dec, .slice A l.length c] 79)).alloc (.cells #[.int .i64 0, .int .i64 0, .int .i64 0, .int .i64 0, .int .i64 0, .int .i64 0, .int .i64 0, .int .i64 0, .int .i64 0, .slice none 0 0] 79)) (.cells #[] 49); rw [World.size_alloc, World.size_alloc] at h; exact h), by simp, by decide, rfl, by simp⟩⟩) w.heap.size A l.length c (l.flatMap msgC) rfl (by exact (((HL.out.alloc (Nat.le_refl _) _).alloc (by simp) _).alloc (by simp; omega) _).2) (msgs_one l) (by unfold maxLen; omega) (by omega) (by simp) ?_)
  intro v1 w1 hown hg hat
  clear hat
  (try simp only [Nat.zero_add, List.nil_append] at hown)
  obtain ⟨A1, c1, rfl, ho⟩ := OwnL.of_own HL.out.1 hown
  have HO := Lib.hid ho
  have HG := Lib.hid ((Below.refl (w.heap.size + 2) _).grown hg (by simp) (fun k hk => by cases hk; exact Nat.le_refl _))
  clear hown hg ho
  obtain ⟨hc, hf, hz⟩ := bcellR HG.out
  have hz' : w.heap.size + 3 ≤ w1.heap.size := by simpa using hz
  have h1 : w.heap.size < w1.heap.size := by omega
  have h2 : w.heap.size + 1 < w1.heap.size := by omega
  have HA : Hid (Blk w1 w.heap.size 79 #[.int .i64 s.me, .int .i64 s.round, .int .i64 s.step, .int .i64 s.lv, .int .i64 s.lr, .int .i64 s.vv, .int .i64 s.vr, .int .i64 s.polka, .int .i64 s.dec, .slice A l.length c]) := Lib.hid ((((show Blk _ _ _ _ from heap_alloc_new w _).alloc _).alloc _).below HG.out (by omega))
  have HZ : Hid (Blk w1 (w.heap.size + 1) 79 #[.int .i64 0, .int .i64 0, .int .i64 0, .int .i64 0, .int .i64 0, .int .i64 0, .int .i64 0, .int .i64 0, .int .i64 0, .slice none 0 0]) := by
    have h := heap_alloc_new (w.alloc (.cells #[.int .i64 s.me, .int .i64 s.round, .int .i64 s.step, .int .i64 s.lv, .int .i64 s.lr, .int .i64 s.vv, .int .i64 s.vr, .int .i64 s.polka, .int .i64 s.dec, .slice A l.length c] 79)) (.cells #[.int .i64 0, .int .i64 0, .int .i64 0, .int .i64 0, .int .i64 0, .int .i64 0, .int .i64 0, .int .i64 0, .int .i64 0, .slice none 0 0] 79)
    rw [World.size_alloc] at h
    exact ((show Blk _ _ _ _ from h).alloc _).below HG.out (by omega)
  have ta := HA.out.cell
  have tr := HZ.out.cell
  have fa := HA.out.frozen
  have fr := HZ.out.frozen
  have HB : Hid (Below w.heap.size w w1) := Below.trans (by exact (by repeat (first | exact Below.refl _ _ | assumption | refine Below.drew ?_ | refine belN ?_ _ | refine Below.alloc ?_ (by first | exact Nat.le_refl _ | (simp; done) | (simp; omega) | omega) _ | refine Below.setCell ?_ (by first | exact Nat.le_refl _ | (simp; done) | (simp; omega) | omega) _ | refine Below.trans ?_ (Below.mono (by assumption) (by first | exact Nat.le_refl _ | (simp; done) | (simp; omega) | omega))))) (Below.mono HG.out (by omega))
  clear hc hf hz
  go_wp2
  refine bodyPost_ret (v := .agg #[.int .i64 s.me, .int .i64 s.round, .int .i64 s.step, .int .i64 s.lv, .int .i64 s.lr, .int .i64 s.vv, .int .i64 s.vr, .int .i64 s.polka, .int .i64 s.dec, .slice A1 l.length c1]) (by simp [results, Try.results82, go_sem, tr]) rfl ⟨A1, c1, rfl, ?_, ?_⟩
  · refine ((HO.out.chg (lo' := w.heap.size) (hi' := w.heap.size + 2) ?_ (.inr (by omega))).wide (by omega) (by simp))
    (repeat (first | with_reducible refine Chg.setCell ?_ (by first | exact Nat.le_refl _ | (simp; done) | (simp; omega)) (by first | (simp; done) | (simp; omega)) _ | with_reducible refine Chg.alloc ?_ _ | with_reducible refine Chg.drew ?_)); (with_reducible exact Chg.refl _ _ _)
  · repeat with_reducible refine Below.setCell ?_ (by first | with_reducible exact Nat.le_refl _ | (simp; done) | (simp; omega)) _
    with_reducible exact HB.out
end Go.Proofs.Ytjgaelnonacdkaa
namespace Go.Proofs.Ytjgaelnonacdkaa
open Go.RowKit

def honC (a b : NMsgD) : Bool := decide (a.f ≤ 3) && (a.f == b.f) && (a.k == b.k) && (a.r == b.r)
def honAt (lp : List NMsgD) (i : Nat) (a : NMsgD) : Bool := noneTo (honC a) lp i
def honestB (ln : List NodeD) (lp : List NMsgD) : Bool := netB ln lp && allTo (honAt lp) lp lp.length
theorem netB_pool {ln : List NodeD} {lp : List NMsgD} (h : netB ln lp = true) : lp.length ≤ 150 := by
  simp only [netB, Bool.and_eq_true, decide_eq_true_eq] at h
  omega
theorem noneTo_no {α : Type} {f : α → Bool} {l : List α} {k j : Nat} {x : α} (hk : l[j]? = some x) (hj : j < k) (hx : f x = true) : noneTo f l k = false := by
  unfold noneTo
  rw [List.all_eq_false]
  exact ⟨x, List.mem_of_getElem? (i := j) (by rw [List.getElem?_take, if_pos hj]; exact hk), by simp [hx]⟩

set_option maxRecDepth 100000 in
set_option maxHeartbeats 4000000 in
theorem Honest_any (A : Option Addr) (n c : Nat) (P : Option Addr) (p d : Nat) (ln : List NodeD) (lp : List NMsgD) (w : World) (hl : NodesRd w w.heap.size A n c ln) (hp : RdL msgC 5 w w.heap.size P p d lp) :
    Calls Try.prog 30 #[.agg #[.slice A n c, .slice P p d]] w fun e w' => e = .returned (.bool (honestB ln lp)) ∧ Below w.heap.size w w' := by
  obtain rfl : lp.length = p := hp.1
  have hpn := hp.le
  have HL := Lib.hid hl
  have HP := Lib.hid hp
  clear hl hp
  cases hN : netB ln lp
  · have HE : Hid (honestB ln lp = false) := by show _ = _; simp [honestB, hN]
    have HN := Lib.hid hN
    clear hN
    go_enter Try.func30, Try.ntmps30
    go_wp2_with fail
    refine (NetOk_any A n c P lp.length d ln lp _ (by exact (HL.out.alloc (Nat.le_refl _) _).more (by simp)) (by exact (HP.out.alloc (Nat.le_refl _) _).more (by simp))).mono ?_
    rw [HN.out]
    rintro e w1 ⟨rfl, hb⟩
    have HW : Hid (Below w.heap.size w w1) := (by repeat (first | exact Below.refl _ _ | assumption | refine Below.drew ?_ | refine belN ?_ _ | refine Below.alloc ?_ (by first | exact Nat.le_refl _ | (simp; done) | (simp; omega) | omega) _ | refine Below.setCell ?_ (by first | exact Nat.le_refl _ | (simp; done) | (simp; omega) | omega) _ | refine Below.trans ?_ (Below.mono (by assumption) (by first | exact Nat.le_refl _ | (simp; done) | (simp; omega) | omega))))
    clear hb
    go_wp2_with fail
    go_ret
    exact ⟨by rw [HE.out]; rfl, HW.out⟩
  have HE : Hid (honestB ln lp = allTo (honAt lp) lp lp.length) := by show _ = _; simp [honestB, hN]
  have HN := Lib.hid hN
  clear hN
  go_enter Try.func30, Try.ntmps30
  go_wp2_with fail
  refine (NetOk_any A n c P lp.length d ln lp _ (by exact (HL.out.alloc (Nat.le_refl _) _).more (by simp)) (by exact (HP.out.alloc (Nat.le_refl _) _).more (by simp))).mono ?_
  rw [HN.out]
  rintro e w1 ⟨rfl, hb⟩
  obtain ⟨hc, hf, hz⟩ := bcell hb
  have hz0 : w.heap.size < w1.heap.size := by simp at hz; omega
  have HW : Hid (Below w.heap.size w w1) := (by repeat (first | exact Below.refl _ _ | assumption | refine Below.drew ?_ | refine belN ?_ _ | refine Below.alloc ?_ (by first | exact Nat.le_refl _ | (simp; done) | (simp; omega) | omega) _ | refine Below.setCell ?_ (by first | exact Nat.le_refl _ | (simp; done) | (simp; omega) | omega) _ | refine Below.trans ?_ (Below.mono (by assumption) (by first | exact Nat.le_refl _ | (simp; done) | (simp; omega) | omega))))
  have s1 : w1.cell? ⟨w.heap.size, 1, none⟩ = some (.slice P lp.length d) := by rw [hc _ _ (by simp)]; simp
  clear hc hf hz hb
  go_wp2_with fail
  go_loopw [13] (fun i wr => ∃ k : Nat, k ≤ lp.length ∧ i = .int .i64 k ∧ Below w1.heap.size w1 wr ∧ allTo (honAt lp) lp k = true) (fun i _ => lp.length - (intOf i).toNat)
  case atStart => exact ⟨0, by omega, rfl, Below.refl _ _, allTo_zero _ _⟩
  case round =>
    obtain ⟨k, hk, rfl, hb, hno⟩ := hrel
    obtain ⟨wo, rfl⟩ : ∃ wo : World, wo = wr := ⟨_, rfl⟩
    have HNO := Lib.hid hno; clear hno
    have hz : w1.heap.size ≤ wo.heap.size := hb.size
    have hz1 : w.heap.size < wo.heap.size := by omega
    have HBO := Lib.hid hb
    have HB : Hid (Below w.heap.size w wo) := HW.out.trans (hb.mono (by omega))
    have t1 : wo.cell? ⟨w.heap.size, 1, none⟩ = some (.slice P lp.length d) := (hb.cell (p := ⟨w.heap.size, 1, none⟩) hz0).trans s1
    clear hb
    by_cases hkn : k < lp.length
    · have HR := Lib.hid ((HP.out.below HB.out (Nat.le_refl _)).more HB.out.size)
      obtain ⟨b, off, p, rfl, hb1, hx, c0, c1, c2, c3, c4⟩ := msg_cells HR.out hkn
      have HX := Lib.hid hx
      clear hx
      have hkc : k ≤ d := Nat.le_trans hk HR.out.2.2.1
      have HT := Lib.hid (HR.out.take msgC_len hk)
      have hkl : k ≤ 9223372036854775807 := by omega
      go_wp2_with fail
      go_loopw [23] (fun i wr => ∃ j : Nat, j ≤ k ∧ i = .int .i64 j ∧ Below (wo.heap.size + 1) (wo.alloc (.cells #[.int .i64 p.k, .int .i64 p.r, .int .i64 p.v, .int .i64 p.p, .int .i64 p.f] 49)) wr ∧ noneTo (honC p) lp j = true) (fun i _ => k - (intOf i).toNat)
      case atStart => exact ⟨0, by omega, rfl, Below.refl _ _, noneTo_zero _ _⟩
      case round =>
        obtain ⟨j, hj, rfl, hb, hno⟩ := hrel
        have HN2 := Lib.hid hno; clear hno
        have hzr : wo.heap.size + 1 ≤ wr.heap.size := by have := hb.size; simpa using this
        have hwo : wo.heap.size < wr.heap.size := by omega
        have HBR := Lib.hid hb
        have HB3 : Hid (Below wo.heap.size wo wr) := ((Below.refl _ _).alloc (Nat.le_refl _) _).trans (hb.mono (by simp))
        have x0 : wr.cell? ⟨wo.heap.size, 0, none⟩ = some (.int .i64 p.k) := by rw [hb.cell (p := ⟨wo.heap.size, 0, none⟩) (by show wo.heap.size < _; omega)]; simp
        have x1 : wr.cell? ⟨wo.heap.size, 1, none⟩ = some (.int .i64 p.r) := by rw [hb.cell (p := ⟨wo.heap.size, 1, none⟩) (by show wo.heap.size < _; omega)]; simp
        have x4 : wr.cell? ⟨wo.heap.size, 4, none⟩ = some (.int .i64 p.f) := by rw [hb.cell (p := ⟨wo.heap.size, 4, none⟩) (by show wo.heap.size < _; omega)]; simp
        clear hb
        by_cases hjn : j < k
        · obtain ⟨b2, off2, q, he, hb2, hy, d0, d1, d2, d3, d4⟩ := msg_cells (HR.out.below HB3.out (Nat.le_refl _)) (show j < lp.length by omega)
          simp only [Option.some.injEq, Addr.mk.injEq, and_true] at he
          obtain ⟨rfl, rfl⟩ := he
          have HY := Lib.hid hy
          clear hy
          have hb2' : b < wr.heap.size := by omega
          by_cases t4 : p.f ≤ 3
          case neg =>
            have HF : Hid (honC p q = false) := by show _ = _; simp [honC, *]
            go_wp2_with fail
            go_roundw
            case rel => exact ⟨j + 1, by omega, by go_num, HBR.out.alloc (by omega) _, noneTo_succ HY.out HN2.out HF.out⟩
            case measure => simp [intOf]; omega
          cases t5 : (p.f == q.f)
          case false =>
            have HF : Hid (honC p q = false) := by show _ = _; simp [honC, *]
            go_wp2_with fail
            go_roundw
            case rel => exact ⟨j + 1, by omega, by go_num, HBR.out.alloc (by omega) _, noneTo_succ HY.out HN2.out HF.out⟩
            case measure => simp [intOf]; omega
          cases t6 : (p.k == q.k)
          case false =>
            have HF : Hid (honC p q = false) := by show _ = _; simp [honC, *]
            go_wp2_with fail
            go_roundw
            case rel => exact ⟨j + 1, by omega, by go_num, HBR.out.alloc (by omega) _, noneTo_succ HY.out HN2.out HF.out⟩
            case measure => simp [intOf]; omega
          cases t7 : (p.r == q.r)
          case false =>
            have HF : Hid (honC p q = false) := by show _ = _; simp [honC, *]
            go_wp2_with fail
            go_roundw
            case rel => exact ⟨j + 1, by omega, by go_num, HBR.out.alloc (by omega) _, noneTo_succ HY.out HN2.out HF.out⟩
            case measure => simp [intOf]; omega
          have HF : Hid (allTo (honAt lp) lp lp.length = false) := allTo_no HX.out (noneTo_no HY.out hjn (by simp [honC, *]))
          go_wp2_with fail
          go_ret
          exact ⟨by rw [HE.out, HF.out]; rfl, HB.out.trans ((HB3.out.alloc (by omega) _).mono HB.out.size)⟩
        · obtain rfl : j = k := by omega
          have HF : Hid (honAt lp j p = true) := HN2.out
          go_wp2_with fail
          go_roundw
          case rel => exact ⟨j + 1, by omega, by go_num, HBO.out.trans (HB3.out.mono (by omega)), by rw [allTo_succ HX.out, HNO.out, HF.out]; rfl⟩
          case measure => simp [intOf]; omega
    · obtain rfl : k = lp.length := by omega
      go_wp2
      go_ret
      exact ⟨by rw [HE.out, HNO.out]; rfl, HB.out⟩

set_option maxRecDepth 100000 in
set_option maxHeartbeats 4000000 in
theorem sHonest_any (A : Option Addr) (n c : Nat) (P : Option Addr) (p d : Nat) (ln : List NodeD) (lp : List NMsgD) (w : World) (hl : NodesRd w w.heap.size A n c ln) (hp : RdL msgC 5 w w.heap.size P p d lp) :
    Calls Try.prog 28 #[.agg #[.slice A n c, .slice P p d]] w fun e w' => e = .returned (.bool (honestB ln lp)) ∧ Below w.heap.size w w' := by
  obtain rfl : lp.length = p := hp.1
  have hpn := hp.le
  have HL := Lib.hid hl
  have HP := Lib.hid hp
  clear hl hp
  cases hN : netB ln lp
  · have HE : Hid (honestB ln lp = false) := by show _ = _; simp [honestB, hN]
    have HN := Lib.hid hN
    clear hN
    go_enter Try.func28, Try.ntmps28
    go_wp2_with fail
    refine (sNetOk_any A n c P lp.length d ln lp _ (by exact (HL.out.alloc (Nat.le_refl _) _).more (by simp)) (by exact (HP.out.alloc (Nat.le_refl _) _).more (by simp))).mono ?_
    rw [HN.out]
    rintro e w1 ⟨rfl, hb⟩
    have HW : Hid (Below w.heap.size w w1) := (by repeat (first | exact Below.refl _ _ | assumption | refine Below.drew ?_ | refine belN ?_ _ | refine Below.alloc ?_ (by first | exact Nat.le_refl _ | (simp; done) | (simp; omega) | omega) _ | refine Below.setCell ?_ (by first | exact Nat.le_refl _ | (simp; done) | (simp; omega) | omega) _ | refine Below.trans ?_ (Below.mono (by assumption) (by first | exact Nat.le_refl _ | (simp; done) | (simp; omega) | omega))))
    clear hb
    go_wp2_with fail
    go_ret
    exact ⟨by rw [HE.out]; rfl, HW.out⟩
  have HE : Hid (honestB ln lp = allTo (honAt lp) lp lp.length) := by show _ = _; simp [honestB, hN]
  have HN := Lib.hid hN
  clear hN
  go_enter Try.func28, Try.ntmps28
  go_wp2_with fail
  refine (sNetOk_any A n c P lp.length d ln lp _ (by exact (HL.out.alloc (Nat.le_refl _) _).more (by simp)) (by exact (HP.out.alloc (Nat.le_refl _) _).more (by simp))).mono ?_
  rw [HN.out]
  rintro e w1 ⟨rfl, hb⟩
  obtain ⟨hc, hf, hz⟩ := bcell hb
  have hz0 : w.heap.size < w1.heap.size := by simp at hz; omega
  have HW : Hid (Below w.heap.size w w1) := (by repeat (first | exact Below.refl _ _ | assumption | refine Below.drew ?_ | refine belN ?_ _ | refine Below.alloc ?_ (by first | exact Nat.le_refl _ | (simp; done) | (simp; omega) | omega) _ | refine Below.setCell ?_ (by first | exact Nat.le_refl _ | (simp; done) | (simp; omega) | omega) _ | refine Below.trans ?_ (Below.mono (by assumption) (by first | exact Nat.le_refl _ | (simp; done) | (simp; omega) | omega))))
  have s1 : w1.cell? ⟨w.heap.size, 1, none⟩ = some (.slice P lp.length d) := by rw [hc _ _ (by simp)]; simp
  clear hc hf hz hb
  go_wp2_with fail
  go_loopw [3] (fun i wr => ∃ k : Nat, k ≤ lp.length ∧ i = .int .i64 k ∧ Below w1.heap.size w1 wr ∧ allTo (honAt lp) lp k = true) (fun i _ => lp.length - (intOf i).toNat)
  case atStart => exact ⟨0, by omega, rfl, Below.refl _ _, allTo_zero _ _⟩
  case round =>
    obtain ⟨k, hk, rfl, hb, hno⟩ := hrel
    obtain ⟨wo, rfl⟩ : ∃ wo : World, wo = wr := ⟨_, rfl⟩
    have HNO := Lib.hid hno; clear hno
    have hz : w1.heap.size ≤ wo.heap.size := hb.size
    have hz1 : w.heap.size < wo.heap.size := by omega
    have HBO := Lib.hid hb
    have HB : Hid (Below w.heap.size w wo) := HW.out.trans (hb.mono (by omega))
    have t1 : wo.cell? ⟨w.heap.size, 1, none⟩ = some (.slice P lp.length d) := (hb.cell (p := ⟨w.heap.size, 1, none⟩) hz0).trans s1
    clear hb
    by_cases hkn : k < lp.length
    · have HR := Lib.hid ((HP.out.below HB.out (Nat.le_refl _)).more HB.out.size)
      obtain ⟨b, off, p, rfl, hb1, hx, c0, c1, c2, c3, c4⟩ := msg_cells HR.out hkn
      have HX := Lib.hid hx
      clear hx
      have hkc : k ≤ d := Nat.le_trans hk HR.out.2.2.1
      go_wp2_with fail
      go_loopw [4] (fun i wr => ∃ j : Nat, j ≤ k ∧ i = .int .i64 j ∧ Below wo.heap.size wo wr ∧ noneTo (honC p) lp j = true) (fun i _ => k - (intOf i).toNat)
      case atStart => exact ⟨0, by omega, rfl, Below.refl _ _, noneTo_zero _ _⟩
      case round =>
        obtain ⟨j, hj, rfl, hb, hno⟩ := hrel
        have HN2 := Lib.hid hno; clear hno
        have hzr : wo.heap.size ≤ wr.heap.size := hb.size
        have hwr : w.heap.size < wr.heap.size := by omega
        have HB3 := Lib.hid hb
        have x1 : wr.cell? ⟨w.heap.size, 1, none⟩ = some (.slice (some ⟨b, off, none⟩) lp.length d) := (hb.cell (p := ⟨w.heap.size, 1, none⟩) hz1).trans t1
        clear hb
        by_cases hjn : j < k
        · have hjl : j < lp.length := by omega
          obtain ⟨b2, off2, q, he, hb2, hy, d0, d1, d2, d3, d4⟩ := msg_cells (HR.out.below HB3.out (Nat.le_refl _)) hjl
          obtain ⟨b3, off3, q', he', hb3, hy', e0, e1, e2, e3, e4⟩ := msg_cells (HR.out.below HB3.out (Nat.le_refl _)) hkn
          simp only [Option.some.injEq, Addr.mk.injEq, and_true] at he he'
          obtain ⟨rfl, rfl⟩ := he
          obtain ⟨rfl, rfl⟩ := he'
          obtain rfl : p = q' := by have := HX.out; rw [hy'] at this; exact (Option.some.inj this).symm
          have HY := Lib.hid hy
          clear hy hy'
          have hb2' : b < wr.heap.size := by omega
          by_cases t4 : p.f ≤ 3
          case neg =>
            have HF : Hid (honC p q = false) := by show _ = _; simp [honC, *]
            go_wp2_with fail
            go_roundw
            case rel => exact ⟨j + 1, by omega, by go_num, (HB3.out.alloc hzr _).alloc (by simp; omega) _, noneTo_succ HY.out HN2.out HF.out⟩
            case measure => simp [intOf]; omega
          cases t5 : (p.f == q.f)
          case false =>
            have HF : Hid (honC p q = false) := by show _ = _; simp [honC, *]
            go_wp2_with fail
            go_roundw
            case rel => exact ⟨j + 1, by omega, by go_num, (HB3.out.alloc hzr _).alloc (by simp; omega) _, noneTo_succ HY.out HN2.out HF.out⟩
            case measure => simp [intOf]; omega
          cases t6 : (p.k == q.k)
          case false =>
            have HF : Hid (honC p q = false) := by show _ = _; simp [honC, *]
            go_wp2_with fail
            go_roundw
            case rel => exact ⟨j + 1, by omega, by go_num, (HB3.out.alloc hzr _).alloc (by simp; omega) _, noneTo_succ HY.out HN2.out HF.out⟩
            case measure => simp [intOf]; omega
          cases t7 : (p.r == q.r)
          case false =>
            have HF : Hid (honC p q = false) := by show _ = _; simp [honC, *]
            go_wp2_with fail
            go_roundw
            case rel => exact ⟨j + 1, by omega, by go_num, (HB3.out.alloc hzr _).alloc (by simp; omega) _, noneTo_succ HY.out HN2.out HF.out⟩
            case measure => simp [intOf]; omega
          have HF : Hid (allTo (honAt lp) lp lp.length = false) := allTo_no HX.out (noneTo_no HY.out hjn (by simp [honC, *]))
          go_wp2_with fail
          go_ret
          exact ⟨by rw [HE.out, HF.out]; rfl, HB.out.trans (((HB3.out.alloc hzr _).alloc (by simp; omega) _).mono HB.out.size)⟩
        · obtain rfl : j = k := by omega
          have HF : Hid (honAt lp j p = true) := HN2.out
          go_wp2_with fail
          go_roundw
          case rel => exact ⟨j + 1, by omega, by go_num, HBO.out.trans (HB3.out.mono (by omega)), by rw [allTo_succ HX.out, HNO.out, HF.out]; rfl⟩
          case measure => simp [intOf]; omega
    · obtain rfl : k = lp.length := by omega
      go_wp2
      go_ret
      exact ⟨by rw [HE.out, HNO.out]; rfl, HB.out⟩
end Go.Proofs.Ytjgaelnonacdkaa
namespace Go.Proofs.Ytjgaelnonacdkaa
open Go.RowKit

def badM (r v : Int) (m : NMsgD) : Bool := (m.k == 3) && decide (m.f ≤ 3) && decide (r < m.r) && decide (0 < m.v) && !(m.v == v)
def heldRV (lp : List NMsgD) (r v : Int) : Bool := decide (countN lp 3 r v < 3) || noneTo (badM r v) lp lp.length
def heldA (lp : List NMsgD) (_ : Nat) (a : NMsgD) : Bool := !(a.k == 3) || (a.v == 0) || heldRV lp a.r a.v
def heldB (ln : List NodeD) (lp : List NMsgD) : Bool := netB ln lp && allTo (heldA lp) lp lp.length

set_option maxRecDepth 100000 in
set_option maxHeartbeats 4000000 in
theorem Held_any (A : Option Addr) (n c : Nat) (P : Option Addr) (p d : Nat) (ln : List NodeD) (lp : List NMsgD) (w : World) (hl : NodesRd w w.heap.size A n c ln) (hp : RdL msgC 5 w w.heap.size P p d lp) :
    Calls Try.prog 31 #[.agg #[.slice A n c, .slice P p d]] w fun e w' => e = .returned (.bool (heldB ln lp)) ∧ Below w.heap.size w w' := by
  obtain rfl : lp.length = p := hp.1
  have hpn := hp.le
  have HL := Lib.hid hl
  have HP := Lib.hid hp
  clear hl hp
  cases hN : netB ln lp
  · have HE : Hid (heldB ln lp = false) := by show _ = _; simp [heldB, hN]
    have HN := Lib.hid hN
    clear hN
    go_enter Try.func31, Try.ntmps31
    go_wp2_with fail
    refine (NetOk_any A n c P lp.length d ln lp _ (by exact (HL.out.alloc (Nat.le_refl _) _).more (by simp)) (by exact (HP.out.alloc (Nat.le_refl _) _).more (by simp))).mono ?_
    rw [HN.out]
    rintro e w1 ⟨rfl, hb⟩
    have HW : Hid (Below w.heap.size w w1) := (by repeat (first | exact Below.refl _ _ | assumption | refine Below.drew ?_ | refine belN ?_ _ | refine Below.alloc ?_ (by first | exact Nat.le_refl _ | (simp; done) | (simp; omega) | omega) _ | refine Below.setCell ?_ (by first | exact Nat.le_refl _ | (simp; done) | (simp; omega) | omega) _ | refine Below.trans ?_ (Below.mono (by assumption) (by first | exact Nat.le_refl _ | (simp; done) | (simp; omega) | omega))))
    clear hb
    go_wp2_with fail
    go_ret
    exact ⟨by rw [HE.out]; rfl, HW.out⟩
  have hp150 : lp.length ≤ 1048576 := by have := netB_pool hN; omega
  have HE : Hid (heldB ln lp = allTo (heldA lp) lp lp.length) := by show _ = _; simp [heldB, hN]
  have HN := Lib.hid hN
  clear hN
  go_enter Try.func31, Try.ntmps31
  go_wp2_with fail
  refine (NetOk_any A n c P lp.length d ln lp _ (by exact (HL.out.alloc (Nat.le_refl _) _).more (by simp)) (by exact (HP.out.alloc (Nat.le_refl _) _).more (by simp))).mono ?_
  rw [HN.out]
  rintro e w1 ⟨rfl, hb⟩
  obtain ⟨hc, hf, hz⟩ := bcell hb
  have hz0 : w.heap.size < w1.heap.size := by simp at hz; omega
  have HW : Hid (Below w.heap.size w w1) := (by repeat (first | exact Below.refl _ _ | assumption | refine Below.drew ?_ | refine belN ?_ _ | refine Below.alloc ?_ (by first | exact Nat.le_refl _ | (simp; done) | (simp; omega) | omega) _ | refine Below.setCell ?_ (by first | exact Nat.le_refl _ | (simp; done) | (simp; omega) | omega) _ | refine Below.trans ?_ (Below.mono (by assumption) (by first | exact Nat.le_refl _ | (simp; done) | (simp; omega) | omega))))
  have s1 : w1.cell? ⟨w.heap.size, 1, none⟩ = some (.slice P lp.length d) := by rw [hc _ _ (by simp)]; simp
  clear hc hf hz hb
  go_wp2_with fail
  go_loopw [17] (fun i wr => ∃ k : Nat, k ≤ lp.length ∧ i = .int .i64 k ∧ Below (w1.heap.size + 1) (w1.alloc (.cells #[.int .i64 0, .int .i64 0, .int .i64 0, .int .i64 0, .int .i64 0, .int .i64 0, .int .i64 0, .int .i64 0, .int .i64 0, .slice P lp.length d] 79)) wr ∧ allTo (heldA lp) lp k = true) (fun i _ => lp.length - (intOf i).toNat)
  case atStart => exact ⟨0, by omega, rfl, Below.refl _ _, allTo_zero _ _⟩
  case round =>
    obtain ⟨k, hk, rfl, hb, hno⟩ := hrel
    obtain ⟨wo, rfl⟩ : ∃ wo : World, wo = wr := ⟨_, rfl⟩
    have HNO := Lib.hid hno; clear hno
    have hz : w1.heap.size + 1 ≤ wo.heap.size := by have := hb.size; simpa using this
    have hz1 : w.heap.size < wo.heap.size := by omega
    have hz2 : w1.heap.size < wo.heap.size := by omega
    have HBO := Lib.hid hb
    have HB : Hid (Below w.heap.size w wo) := (HW.out.alloc (by omega) _).trans (hb.mono (by omega))
    have t1 : wo.cell? ⟨w.heap.size, 1, none⟩ = some (.slice P lp.length d) := by rw [hb.cell (p := ⟨w.heap.size, 1, none⟩) (by show w.heap.size < _; omega), World.cell?_alloc_lt _ _ _ (by show w.heap.size < _; exact hz0)]; exact s1
    have x9 : wo.cell? ⟨w1.heap.size, 9, none⟩ = some (.slice P lp.length d) := by rw [hb.cell (p := ⟨w1.heap.size, 9, none⟩) (by show w1.heap.size < _; omega)]; simp
    clear hb
    by_cases hkn : k < lp.length
    · have HR := Lib.hid ((HP.out.below HB.out (Nat.le_refl _)).more HB.out.size)
      obtain ⟨b, off, a, rfl, hb1, hx, c0, c1, c2, c3, c4⟩ := msg_cells HR.out hkn
      have HX := Lib.hid hx
      clear hx
      cases q1 : (a.k == 3)
      case false =>
        have q1n : (a.k != 3) = true := by simp only [bne, q1]; rfl
        have HF : Hid (heldA lp k a = true) := by show _ = _; simp [heldA, q1]
        go_wp2_with fail
        go_roundw
        case rel => exact ⟨k + 1, by omega, by go_num, HBO.out.alloc (by omega) _, by rw [allTo_succ HX.out, HNO.out, HF.out]; rfl⟩
        case measure => simp [intOf]; omega
      have q1n : (a.k != 3) = false := by simp only [bne, q1]; rfl
      cases q2 : (a.v == 0)
      case true =>
        have HF : Hid (heldA lp k a = true) := by show _ = _; simp [heldA, q2]
        go_wp2_with fail
        go_roundw
        case rel => exact ⟨k + 1, by omega, by go_num, HBO.out.alloc (by omega) _, by rw [allTo_succ HX.out, HNO.out, HF.out]; rfl⟩
        case measure => simp [intOf]; omega
      obtain ⟨cn, hcn⟩ : ∃ q, countN lp 3 a.r a.v = q := ⟨_, rfl⟩
      have HC := Lib.hid hcn
      clear hcn
      go_wp2_with fail
      refine (count_any w1.heap.size (some ⟨b, off, none⟩) lp.length d lp 3 a.r a.v _ (by exact (HR.out.alloc (Nat.le_refl _) _).more (by simp)) hp150 (by rw [World.cell?_alloc_lt _ _ _ (by show w1.heap.size < _; exact hz2)]; exact x9) (by simp; omega)).mono ?_
      rw [HC.out]
      rintro e w2 ⟨rfl, hb⟩
      have hs2 : wo.heap.size + 1 ≤ w2.heap.size := by have := hb.size; simpa using this
      have B2 : Hid (Below wo.heap.size wo w2) := ((Below.refl _ _).alloc (Nat.le_refl _) _).trans (hb.mono (by simp))
      have y1 : w2.cell? ⟨w.heap.size, 1, none⟩ = some (.slice (some ⟨b, off, none⟩) lp.length d) := (B2.out.cell (p := ⟨w.heap.size, 1, none⟩) hz1).trans t1
      have z1 : w2.cell? ⟨wo.heap.size, 1, none⟩ = some (.int .i64 a.r) := by rw [hb.cell (p := ⟨wo.heap.size, 1, none⟩) (by simp)]; simp
      have z2 : w2.cell? ⟨wo.heap.size, 2, none⟩ = some (.int .i64 a.v) := by rw [hb.cell (p := ⟨wo.heap.size, 2, none⟩) (by simp)]; simp
      clear hb
      by_cases q3 : cn < 3
      case pos =>
        have HF : Hid (heldA lp k a = true) := by show _ = _; simp [heldA, heldRV, HC.out, q3]
        go_wp2_with fail
        go_roundw
        case rel => exact ⟨k + 1, by omega, by go_num, HBO.out.trans (B2.out.mono (by omega)), by rw [allTo_succ HX.out, HNO.out, HF.out]; rfl⟩
        case measure => simp [intOf]; omega
      have hz3 : w.heap.size < w2.heap.size := by omega
      have hz4 : wo.heap.size < w2.heap.size := by omega
      go_wp2_with fail
      go_loopw [40] (fun i wr => ∃ j : Nat, j ≤ lp.length ∧ i = .int .i64 j ∧ Below w2.heap.size w2 wr ∧ noneTo (badM a.r a.v) lp j = true) (fun i _ => lp.length - (intOf i).toNat)
      case atStart => exact ⟨0, by omega, rfl, Below.refl _ _, noneTo_zero _ _⟩
      case round =>
        obtain ⟨j, hj, rfl, hb, hno⟩ := hrel
        have HN2 := Lib.hid hno; clear hno
        have hzr : w2.heap.size ≤ wr.heap.size := hb.size
        have HBR := Lib.hid hb
        have hwo : wo.heap.size < wr.heap.size := by omega
        have u1 : wr.cell? ⟨wo.heap.size, 1, none⟩ = some (.int .i64 a.r) := (hb.cell (p := ⟨wo.heap.size, 1, none⟩) hz4).trans z1
        have u2 : wr.cell? ⟨wo.heap.size, 2, none⟩ = some (.int .i64 a.v) := (hb.cell (p := ⟨wo.heap.size, 2, none⟩) hz4).trans z2
        clear hb
        have HB3 := Lib.hid (B2.out.trans (HBR.out.mono (by omega)))
        by_cases hjn : j < lp.length
        · obtain ⟨b2, off2, m, he, hb2, hy, d0, d1, d2, d3, d4⟩ := msg_cells (HR.out.below HB3.out (Nat.le_refl _)) hjn
          simp only [Option.some.injEq, Addr.mk.injEq, and_true] at he
          obtain ⟨rfl, rfl⟩ := he
          have HM := Lib.hid hy
          clear hy
          have hb2' : b < wr.heap.size := by omega
          cases t1 : (m.k == 3)
          case false =>
            have HF : Hid (badM a.r a.v m = false) := by show _ = _; simp [badM, *]
            go_wp2_with fail
            go_roundw
            case rel => exact ⟨j + 1, by omega, by go_num, HBR.out.alloc HBR.out.size _, noneTo_succ HM.out HN2.out HF.out⟩
            case measure => simp [intOf]; omega
          by_cases t2 : m.f ≤ 3
          case neg =>
            have HF : Hid (badM a.r a.v m = false) := by show _ = _; simp [badM, *]
            go_wp2_with fail
            go_roundw
            case rel => exact ⟨j + 1, by omega, by go_num, HBR.out.alloc HBR.out.size _, noneTo_succ HM.out HN2.out HF.out⟩
            case measure => simp [intOf]; omega
          by_cases t3 : a.r < m.r
          case neg =>
            have HF : Hid (badM a.r a.v m = false) := by show _ = _; simp [badM, *]
            go_wp2_with fail
            go_roundw
            case rel => exact ⟨j + 1, by omega, by go_num, HBR.out.alloc HBR.out.size _, noneTo_succ HM.out HN2.out HF.out⟩
            case measure => simp [intOf]; omega
          by_cases t4 : 0 < m.v
          case neg =>
            have HF : Hid (badM a.r a.v m = false) := by show _ = _; simp [badM, *]
            go_wp2_with fail
            go_roundw
            case rel => exact ⟨j + 1, by omega, by go_num, HBR.out.alloc HBR.out.size _, noneTo_succ HM.out HN2.out HF.out⟩
            case measure => simp [intOf]; omega
          cases t5 : (m.v == a.v)
          case true =>
            have t5n : (m.v != a.v) = false := by simp only [bne, t5]; rfl
            have HF : Hid (badM a.r a.v m = false) := by show _ = _; simp [badM, *]
            go_wp2_with fail
            go_roundw
            case rel => exact ⟨j + 1, by omega, by go_num, HBR.out.alloc HBR.out.size _, noneTo_succ HM.out HN2.out HF.out⟩
            case measure => simp [intOf]; omega
          have t5n : (m.v != a.v) = true := by simp only [bne, t5]; rfl
          have HF : Hid (allTo (heldA lp) lp lp.length = false) := allTo_no HX.out (by simp only [heldA, heldRV, HC.out, q1, q2]; rw [noneTo_no HM.out hjn (by simp [badM, *])]; simp; omega)
          go_wp2_with fail
          go_ret
          exact ⟨by rw [HE.out, HF.out]; rfl, HB.out.trans ((HB3.out.alloc (by omega) _).mono HB.out.size)⟩
        · obtain rfl : j = lp.length := by omega
          have HF : Hid (heldA lp k a = true) := by show _ = _; simp [heldA, heldRV, HN2.out]
          go_wp2_with fail
          go_roundw
          case rel => exact ⟨k + 1, by omega, by go_num, HBO.out.trans (HB3.out.mono (by omega)), by rw [allTo_succ HX.out, HNO.out, HF.out]; rfl⟩
          case measure => simp [intOf]; omega
    · obtain rfl : k = lp.length := by omega
      go_wp2
      go_ret
      exact ⟨by rw [HE.out, HNO.out]; rfl, HB.out⟩
end Go.Proofs.Ytjgaelnonacdkaa
