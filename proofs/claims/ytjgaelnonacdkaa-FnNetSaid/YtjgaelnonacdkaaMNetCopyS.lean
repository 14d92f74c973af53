/- l17Copy of the reference (written by wip/netcopys.py). -/
import Derived.WalkKit
import Derived.WalkSpells
import Derived.WalkLawsBesides
import Derived.Lib.Hide
import Derived.Test.YtjgaelnonacdkaaG35
import Derived.Test.YtjgaelnonacdkaaMNetRule
namespace Go.Proofs.Ytjgaelnonacdkaa
open Go.RowKit

theorem Rd.of_blk {w : World} {q B T size : Nat} {cs : Array Value} (hb : Blk w q T cs) (hs : cs.size = size) (hq : q < B) : Rd w B (some ⟨q, 0, none⟩) 1 1 size cs.toList := by
  refine ⟨by simp [hs], Nat.le_refl _, by unfold maxLen; omega, fun _ => ⟨q, 0, rfl, hq, fun j hj => ?_⟩⟩
  rw [hb.cell, Nat.zero_add]; simp

set_option maxRecDepth 100000 in
set_option maxHeartbeats 4000000 in
theorem l17Copy_any (A : Option Addr) (c : Nat) (P : Option Addr) (d : Nat) (ln : List NodeD) (lp : List NMsgD) (w : World) (hl : NodesRd w w.heap.size A ln.length c ln) (hp : RdL msgC 5 w w.heap.size P lp.length d lp)
    (hn : ln.length ≤ 1000) (hm : ∀ x ∈ ln, x.l.length ≤ 1048576) (hpn : lp.length ≤ 1048576) :
    Calls Try.prog 45 #[.agg #[.slice A ln.length c, .slice P lp.length d]] w (NetOutL ln lp w) := by
  obtain ⟨i0, hi, hz0, hz1, hz2⟩ := info_parts infoMsgC
  obtain ⟨i1, hj, hy0, hy1, hy2⟩ := info_parts infoNode'
  have HL := Lib.hid hl
  have HP := Lib.hid hp
  have HM := Lib.hid hm
  clear hl hp hm
  go_enter Try.func45, Try.ntmps45
  go_wp2_with (at_builtin; refine wpList_app_rd _ rfl _ _ _ rfl (w.heap.size + 2) 49 i0 _ 5 40 Try.underlying25 hi hz0 hz1 hz2 rfl (by decide) (.slice (some ⟨w.heap.size + 2, 0, none⟩) 0 0) 0 [] rfl (by exact ⟨by simp, .inr ⟨w.heap.size + 2, 0, #[], rfl, Nat.le_refl _, by (have h := heap_alloc_new ((w.alloc (.cells #[.slice A ln.length c, .slice P lp.length d] 27)).alloc (.cells #[.slice none 0 0, .slice none 0 0] 27)) (.cells #[] 49); rw [World.size_alloc, World.size_alloc] at h; exact h), by simp, by decide, rfl, by simp⟩⟩) w.heap.size P lp.length d (lp.flatMap msgC) rfl (by exact (((HP.out.alloc (Nat.le_refl _) _).alloc (by simp) _).alloc (by simp; omega) _).2) (msgs_one lp) (by unfold maxLen; omega) (by omega) (by simp) ?_)
  intro v1 w1 hown hg hat
  clear hat
  (try simp only [Nat.zero_add, List.nil_append] at hown)
  obtain ⟨P1, d1, rfl, ho⟩ := OwnL.of_own (l := lp) rfl hown
  have HO := Lib.hid ho
  have HG := Lib.hid ((Below.refl (w.heap.size + 2) _).grown hg (by simp) (fun k hk => by cases hk; exact Nat.le_refl _))
  clear hown hg ho
  have hz' : w.heap.size + 2 ≤ w1.heap.size := by have := HG.out.size; simp at this; omega
  have HB1 : Hid (Below w.heap.size w w1) := (Below.trans (by exact (by repeat (first | exact Below.refl _ _ | assumption | refine Below.drew ?_ | refine belN ?_ _ | refine Below.alloc ?_ (by first | exact Nat.le_refl _ | (simp; done) | (simp; omega) | omega) _ | refine Below.setCell ?_ (by first | exact Nat.le_refl _ | (simp; done) | (simp; omega) | omega) _ | refine Below.trans ?_ (Below.mono (by assumption) (by first | exact Nat.le_refl _ | (simp; done) | (simp; omega) | omega))))) (HG.out.mono (by omega)))
  have HA1 : Hid (Blk w1 w.heap.size 27 #[.slice A ln.length c, .slice P lp.length d]) := (((show Blk (w.alloc _) w.heap.size _ _ from heap_alloc_new w _).alloc _).alloc _).below HG.out (by omega)
  have HR1 : Hid (Blk w1 (w.heap.size + 1) 27 #[.slice none 0 0, .slice none 0 0]) := by
    have h := heap_alloc_new (w.alloc (.cells #[.slice A ln.length c, .slice P lp.length d] 27)) (.cells #[.slice none 0 0, .slice none 0 0] 27)
    rw [World.size_alloc] at h
    exact ((show Blk _ _ _ _ from h).alloc _).below HG.out (by omega)
  have ta : ∀ o, w1.cell? ⟨w.heap.size, o, none⟩ = _ := HA1.out.cell
  have tl : w.heap.size < w1.heap.size := by omega
  clear HG
  go_upto_region 2 with fail
  obtain ⟨w2, hw2⟩ : ∃ q, q = w1.alloc (.cells #[.slice none 0 0, .slice P1 lp.length d1] 27) := ⟨_, rfl⟩
  rw [← hw2]
  have hb2 : Below w1.heap.size w1 w2 := by rw [hw2]; exact (Below.refl _ _).alloc (Nat.le_refl _) _
  have HX2 : Hid (Blk w2 w1.heap.size 27 #[.slice none 0 0, .slice P1 lp.length d1]) := by show Blk _ _ _ _; rw [hw2]; exact heap_alloc_new w1 _
  have HBB2 := Lib.hid hb2
  have hs2 := HX2.out.lt
  have tb : ∀ o, w2.cell? ⟨w.heap.size, o, none⟩ = _ := fun o => (hb2.cell (p := ⟨w.heap.size, o, none⟩) tl).trans (ta o)
  clear hw2 hb2 ta tb
  go_wp2_with fail
  go_loopw [4] (fun i wr => ∃ (k : Nat) (lv : List NodeV) (A' : Option Addr) (c' : Nat), k ≤ ln.length ∧ i = .int .i64 k ∧ NodesG wr (w1.heap.size + 1) A' c' lv ln k ∧ Blk wr w1.heap.size 27 #[.slice A' k c', .slice P1 lp.length d1] ∧ Below w1.heap.size w2 wr) (fun i _ => ln.length - (intOf i).toNat)
  case atStart => exact ⟨0, [], none, 0, by omega, rfl, NodesG.nil _ _ _, HX2.out, Below.refl _ _⟩
  case round =>
    obtain ⟨k, lv, A', c', hk, rfl, hG, hX, hb⟩ := hrel
    have hsr := hX.lt
    have HBR : Hid (Below w1.heap.size w1 wr) := Lib.hid (HBB2.out.trans hb)
    have HBW : Hid (Below w.heap.size w wr) := Lib.hid (HB1.out.trans (HBR.out.mono (by omega)))
    have HX := Lib.hid hX
    have HGR := Lib.hid hG
    have HB2R := Lib.hid hb
    clear hG hX hb
    by_cases hkn : k < ln.length
    · obtain ⟨b, off, s, A1, n1, c1, l, rfl, hb1, hpk, hr, q0, q1, q2, q3, q4, q5, q6, q7, q8, q9⟩ := (HL.out.below HBW.out (Nat.le_refl _)).at_ hkn
      obtain rfl : l.length = n1 := hr.1
      have hlm := HM.out _ (List.mem_of_getElem? hpk)
      have HPK := Lib.hid hpk
      have hlm : l.length ≤ 1048576 := hlm
      have hsw := HBW.out.size
      have HRK := Lib.hid (hr.more hsw)
      have hbw : b < wr.heap.size := by omega
      clear hpk hr
      have tg := HX.out.cell
      have HAR := Lib.hid (HA1.out.below HBR.out (by omega))
      have ta := HAR.out.cell
      have hxr : w.heap.size < wr.heap.size := by omega
      go_upto_region 5 with fail
      refine wp_region_core2 [0, 1, 2, 3, 4, 5, 6, 7, 8] (Below wr.heap.size wr) (fun j wa wb => match j with | _ => Below wa.heap.size wa wb) (fun ii b7 wx => match ii with
        | 0 => b7.tmps.getD 17 undef = .pointer (some ⟨w1.heap.size, 0, none⟩)
        | 1 => b7.tmps.getD 18 undef = .slice A' k c'
        | 2 => b7.tmps.getD 19 undef = .pointer (some ⟨w.heap.size, 0, none⟩)
        | 3 => b7.tmps.getD 20 undef = .slice (some ⟨b, off, none⟩) ln.length c
        | 4 => b7.tmps.getD 21 undef = .int .i64 (k : Int)
        | 5 => b7.tmps.getD 22 undef = .pointer (some ⟨b, off + k * 10, none⟩)
        | 6 => b7.tmps.getD 23 undef = .agg #[.int .i64 s.me, .int .i64 s.round, .int .i64 s.step, .int .i64 s.lv, .int .i64 s.lr, .int .i64 s.vv, .int .i64 s.vr, .int .i64 s.polka, .int .i64 s.dec, .slice A1 l.length c1]
        | 7 => ∃ (A3 : Option Addr) (c3 : Nat), b7.tmps.getD 24 undef = .agg #[.int .i64 s.me, .int .i64 s.round, .int .i64 s.step, .int .i64 s.lv, .int .i64 s.lr, .int .i64 s.vv, .int .i64 s.vr, .int .i64 s.polka, .int .i64 s.dec, .slice A3 l.length c3] ∧ OwnL msgC 5 49 wx wr.heap.size wx.heap.size A3 l.length c3 l
        | 8 => ∃ (q : Nat) (A3 : Option Addr) (c3 : Nat), b7.tmps.getD 25 undef = .slice (some ⟨q, 0, none⟩) 1 1 ∧ wr.heap.size ≤ q ∧ Blk wx q 79 #[.int .i64 s.me, .int .i64 s.round, .int .i64 s.step, .int .i64 s.lv, .int .i64 s.lr, .int .i64 s.vv, .int .i64 s.vr, .int .i64 s.polka, .int .i64 s.dec, .slice A3 l.length c3] ∧ OwnL msgC 5 49 wx wr.heap.size wx.heap.size A3 l.length c3 l
        | _ => True) (by kernel_rfl) (by kernel_rfl) ((Below.refl _ _).drew) ?_ ?_ ?_
      · intro b7 wa wb i7 j7 oj v hi hj hij hoj hdep hE h
        simp only [List.mem_cons, List.not_mem_nil, or_false] at hi hj
        rcases hj with rfl | rfl | rfl | rfl | rfl | rfl | rfl | rfl | rfl
        all_goals obtain rfl := Option.some.inj hoj
        · rcases hi with rfl | rfl | rfl | rfl | rfl | rfl | rfl | rfl | rfl
          all_goals first | exact absurd rfl hij | exact trivial | (simp only at hE h ⊢; (first | exact trivial | exact getk' h (by decide) | (obtain ⟨A3, c3, e, h⟩ := h; exact ⟨A3, c3, getk' e (by decide), (h.below hE (Nat.le_refl _)).wide (Nat.le_refl _) hE.size⟩) | (obtain ⟨q, A3, c3, e, h1, h2, h⟩ := h; exact ⟨q, A3, c3, getk' e (by decide), h1, h2.below hE h2.lt, (h.below hE (Nat.le_refl _)).wide (Nat.le_refl _) hE.size⟩))) | exact absurd rfl (hdep _ rfl ⟨0, .data⟩ (by simp) rfl)
        · rcases hi with rfl | rfl | rfl | rfl | rfl | rfl | rfl | rfl | rfl
          all_goals first | exact absurd rfl hij | exact trivial | (simp only at hE h ⊢; (first | exact trivial | exact getk' h (by decide) | (obtain ⟨A3, c3, e, h⟩ := h; exact ⟨A3, c3, getk' e (by decide), (h.below hE (Nat.le_refl _)).wide (Nat.le_refl _) hE.size⟩) | (obtain ⟨q, A3, c3, e, h1, h2, h⟩ := h; exact ⟨q, A3, c3, getk' e (by decide), h1, h2.below hE h2.lt, (h.below hE (Nat.le_refl _)).wide (Nat.le_refl _) hE.size⟩))) | exact absurd rfl (hdep _ rfl ⟨1, .data⟩ (by simp) rfl)
        · rcases hi with rfl | rfl | rfl | rfl | rfl | rfl | rfl | rfl | rfl
          all_goals first | exact absurd rfl hij | exact trivial | (simp only at hE h ⊢; (first | exact trivial | exact getk' h (by decide) | (obtain ⟨A3, c3, e, h⟩ := h; exact ⟨A3, c3, getk' e (by decide), (h.below hE (Nat.le_refl _)).wide (Nat.le_refl _) hE.size⟩) | (obtain ⟨q, A3, c3, e, h1, h2, h⟩ := h; exact ⟨q, A3, c3, getk' e (by decide), h1, h2.below hE h2.lt, (h.below hE (Nat.le_refl _)).wide (Nat.le_refl _) hE.size⟩))) | exact absurd rfl (hdep _ rfl ⟨2, .data⟩ (by simp) rfl)
        · rcases hi with rfl | rfl | rfl | rfl | rfl | rfl | rfl | rfl | rfl
          all_goals first | exact absurd rfl hij | exact trivial | (simp only at hE h ⊢; (first | exact trivial | exact getk' h (by decide) | (obtain ⟨A3, c3, e, h⟩ := h; exact ⟨A3, c3, getk' e (by decide), (h.below hE (Nat.le_refl _)).wide (Nat.le_refl _) hE.size⟩) | (obtain ⟨q, A3, c3, e, h1, h2, h⟩ := h; exact ⟨q, A3, c3, getk' e (by decide), h1, h2.below hE h2.lt, (h.below hE (Nat.le_refl _)).wide (Nat.le_refl _) hE.size⟩))) | exact absurd rfl (hdep _ rfl ⟨3, .data⟩ (by simp) rfl)
        · rcases hi with rfl | rfl | rfl | rfl | rfl | rfl | rfl | rfl | rfl
          all_goals first | exact absurd rfl hij | exact trivial | (simp only at hE h ⊢; (first | exact trivial | exact getk' h (by decide) | (obtain ⟨A3, c3, e, h⟩ := h; exact ⟨A3, c3, getk' e (by decide), (h.below hE (Nat.le_refl _)).wide (Nat.le_refl _) hE.size⟩) | (obtain ⟨q, A3, c3, e, h1, h2, h⟩ := h; exact ⟨q, A3, c3, getk' e (by decide), h1, h2.below hE h2.lt, (h.below hE (Nat.le_refl _)).wide (Nat.le_refl _) hE.size⟩))) | exact absurd rfl (hdep _ rfl ⟨4, .data⟩ (by simp) rfl)
        · rcases hi with rfl | rfl | rfl | rfl | rfl | rfl | rfl | rfl | rfl
          all_goals first | exact absurd rfl hij | exact trivial | (simp only at hE h ⊢; (first | exact trivial | exact getk' h (by decide) | (obtain ⟨A3, c3, e, h⟩ := h; exact ⟨A3, c3, getk' e (by decide), (h.below hE (Nat.le_refl _)).wide (Nat.le_refl _) hE.size⟩) | (obtain ⟨q, A3, c3, e, h1, h2, h⟩ := h; exact ⟨q, A3, c3, getk' e (by decide), h1, h2.below hE h2.lt, (h.below hE (Nat.le_refl _)).wide (Nat.le_refl _) hE.size⟩))) | exact absurd rfl (hdep _ rfl ⟨5, .data⟩ (by simp) rfl)
        · rcases hi with rfl | rfl | rfl | rfl | rfl | rfl | rfl | rfl | rfl
          all_goals first | exact absurd rfl hij | exact trivial | (simp only at hE h ⊢; (first | exact trivial | exact getk' h (by decide) | (obtain ⟨A3, c3, e, h⟩ := h; exact ⟨A3, c3, getk' e (by decide), (h.below hE (Nat.le_refl _)).wide (Nat.le_refl _) hE.size⟩) | (obtain ⟨q, A3, c3, e, h1, h2, h⟩ := h; exact ⟨q, A3, c3, getk' e (by decide), h1, h2.below hE h2.lt, (h.below hE (Nat.le_refl _)).wide (Nat.le_refl _) hE.size⟩))) | exact absurd rfl (hdep _ rfl ⟨6, .data⟩ (by simp) rfl)
        · rcases hi with rfl | rfl | rfl | rfl | rfl | rfl | rfl | rfl | rfl
          all_goals first | exact absurd rfl hij | exact trivial | (simp only at hE h ⊢; (first | exact trivial | exact getk' h (by decide) | (obtain ⟨A3, c3, e, h⟩ := h; exact ⟨A3, c3, getk' e (by decide), (h.below hE (Nat.le_refl _)).wide (Nat.le_refl _) hE.size⟩) | (obtain ⟨q, A3, c3, e, h1, h2, h⟩ := h; exact ⟨q, A3, c3, getk' e (by decide), h1, h2.below hE h2.lt, (h.below hE (Nat.le_refl _)).wide (Nat.le_refl _) hE.size⟩))) | exact absurd rfl (hdep _ rfl ⟨7, .data⟩ (by simp) rfl)
        · rcases hi with rfl | rfl | rfl | rfl | rfl | rfl | rfl | rfl | rfl
          all_goals first | exact absurd rfl hij | exact trivial | (simp only at hE h ⊢; (first | exact trivial | exact getk' h (by decide) | (obtain ⟨A3, c3, e, h⟩ := h; exact ⟨A3, c3, getk' e (by decide), (h.below hE (Nat.le_refl _)).wide (Nat.le_refl _) hE.size⟩) | (obtain ⟨q, A3, c3, e, h1, h2, h⟩ := h; exact ⟨q, A3, c3, getk' e (by decide), h1, h2.below hE h2.lt, (h.below hE (Nat.le_refl _)).wide (Nat.le_refl _) hE.size⟩))) | exact absurd rfl (hdep _ rfl ⟨8, .data⟩ (by simp) rfl)
      · intro j7 o hj' ho a' w' hC hsame hdep
        have hz : wr.heap.size ≤ w'.heap.size := hC.size
        simp only [List.mem_cons, List.not_mem_nil, or_false] at hj'
        rcases hj' with rfl | rfl | rfl | rfl | rfl | rfl | rfl | rfl | rfl
        all_goals obtain rfl := Option.some.inj ho
        · have hs : a'.tmps.getD 3 undef = .pointer (some ⟨w1.heap.size, 0, none⟩) := hsame 3 (by rfl)
          refine wp_val (w2 := w') (.pointer (some ⟨w1.heap.size, 0, none⟩)) (fun K hK => ?_) ⟨_, rfl, hC, Below.refl _ _, fun b7 hb hb2 => hb 17 rfl⟩
          clear hsame hdep
          unfold Oper.wp
          simp [execOp, Act.eval, go_sem, hs]
          exact hK
        · have e1 : a'.tmps.getD 17 undef = .pointer (some ⟨w1.heap.size, 0, none⟩) := hdep ⟨0, .data⟩ (by simp) rfl
          have zz : ∀ o, w'.cell? ⟨w1.heap.size, o, none⟩ = _ := fun o => (hC.cell (p := ⟨w1.heap.size, o, none⟩) hsr).trans (tg o)
          refine wp_val (w2 := w') (.slice A' k c') (fun K hK => ?_) ⟨_, rfl, hC, Below.refl _ _, fun b7 hb hb2 => hb 18 rfl⟩
          clear hsame hdep
          unfold Oper.wp
          simp [execOp, Act.eval, go_sem, e1, zz]
          exact hK
        · have hs : a'.tmps.getD 1 undef = .pointer (some ⟨w.heap.size, 0, none⟩) := hsame 1 (by rfl)
          refine wp_val (w2 := w') (.pointer (some ⟨w.heap.size, 0, none⟩)) (fun K hK => ?_) ⟨_, rfl, hC, Below.refl _ _, fun b7 hb hb2 => hb 19 rfl⟩
          clear hsame hdep
          unfold Oper.wp
          simp [execOp, Act.eval, go_sem, hs]
          exact hK
        · have e1 : a'.tmps.getD 19 undef = .pointer (some ⟨w.heap.size, 0, none⟩) := hdep ⟨2, .data⟩ (by simp) rfl
          have zz : ∀ o, w'.cell? ⟨w.heap.size, o, none⟩ = _ := fun o => (hC.cell (p := ⟨w.heap.size, o, none⟩) hxr).trans (ta o)
          refine wp_val (w2 := w') (.slice (some ⟨b, off, none⟩) ln.length c) (fun K hK => ?_) ⟨_, rfl, hC, Below.refl _ _, fun b7 hb hb2 => hb 20 rfl⟩
          clear hsame hdep
          unfold Oper.wp
          simp [execOp, Act.eval, go_sem, e1, zz]
          exact hK
        · have hs : a'.tmps.getD 4 undef = .int .i64 (k : Int) := hsame 4 (by rfl)
          refine wp_val (w2 := w') (.int .i64 (k : Int)) (fun K hK => ?_) ⟨_, rfl, hC, Below.refl _ _, fun b7 hb hb2 => hb 21 rfl⟩
          clear hsame hdep
          unfold Oper.wp
          simp [execOp, Act.eval, go_sem, hs]
          exact hK
        · have e1 : a'.tmps.getD 20 undef = .slice (some ⟨b, off, none⟩) ln.length c := hdep ⟨3, .data⟩ (by simp) rfl
          have e2 : a'.tmps.getD 21 undef = .int .i64 (k : Int) := hdep ⟨4, .data⟩ (by simp) rfl
          refine wp_val (w2 := w') (.pointer (some ⟨b, off + k * 10, none⟩)) (fun K hK => ?_) ⟨_, rfl, hC, Below.refl _ _, fun b7 hb hb2 => hb 22 rfl⟩
          clear hsame hdep
          unfold Oper.wp
          simp [execOp, Act.eval, go_sem, e1, e2, hkn]
          exact hK
        · have e1 : a'.tmps.getD 22 undef = .pointer (some ⟨b, off + k * 10, none⟩) := hdep ⟨5, .data⟩ (by simp) rfl
          have k0 := (hC.cell (p := ⟨b, off + k * 10, none⟩) hbw).trans q0
          have k1 := (hC.cell (p := ⟨b, off + k * 10 + 1, none⟩) hbw).trans q1
          have k2 := (hC.cell (p := ⟨b, off + k * 10 + 2, none⟩) hbw).trans q2
          have k3 := (hC.cell (p := ⟨b, off + k * 10 + 3, none⟩) hbw).trans q3
          have k4 := (hC.cell (p := ⟨b, off + k * 10 + 4, none⟩) hbw).trans q4
          have k5 := (hC.cell (p := ⟨b, off + k * 10 + 5, none⟩) hbw).trans q5
          have k6 := (hC.cell (p := ⟨b, off + k * 10 + 6, none⟩) hbw).trans q6
          have k7 := (hC.cell (p := ⟨b, off + k * 10 + 7, none⟩) hbw).trans q7
          have k8 := (hC.cell (p := ⟨b, off + k * 10 + 8, none⟩) hbw).trans q8
          have k9 := (hC.cell (p := ⟨b, off + k * 10 + 9, none⟩) hbw).trans q9
          refine wp_val (w2 := w') (.agg #[.int .i64 s.me, .int .i64 s.round, .int .i64 s.step, .int .i64 s.lv, .int .i64 s.lr, .int .i64 s.vv, .int .i64 s.vr, .int .i64 s.polka, .int .i64 s.dec, .slice A1 l.length c1]) (fun K hK => ?_) ⟨_, rfl, hC, Below.refl _ _, fun b7 hb hb2 => hb 23 rfl⟩
          clear hsame hdep
          unfold Oper.wp
          simp [execOp, Act.eval, go_sem, e1, k0, k1, k2, k3, k4, k5, k6, k7, k8, k9]
          exact hK
        · have e1 : a'.tmps.getD 23 undef = .agg #[.int .i64 s.me, .int .i64 s.round, .int .i64 s.step, .int .i64 s.lv, .int .i64 s.lr, .int .i64 s.vv, .int .i64 s.vr, .int .i64 s.polka, .int .i64 s.dec, .slice A1 l.length c1] := hdep ⟨6, .data⟩ (by simp) rfl
          have hr : RdL msgC 5 w' w'.heap.size A1 l.length c1 l := (HRK.out.below hC (Nat.le_refl _)).more hz
          refine wp_call (fun u wq => ∃ A3 c3, u = .agg #[.int .i64 s.me, .int .i64 s.round, .int .i64 s.step, .int .i64 s.lv, .int .i64 s.lr, .int .i64 s.vv, .int .i64 s.vr, .int .i64 s.polka, .int .i64 s.dec, .slice A3 l.length c3] ∧ OwnL msgC 5 49 wq w'.heap.size wq.heap.size A3 l.length c3 l ∧ Below w'.heap.size w' wq) (fun K hK => ?_) ?_
          · clear hsame hdep
            unfold Oper.wp
            simp [Act.eval, e1, go_sem]
            refine (l16Copy_any s A1 c1 l _ hr hlm).mono ?_
            rintro e w3 ⟨A7, c7, rfl, ho, hb3⟩
            exact hK _ _ ⟨A7, c7, rfl, ho, hb3⟩
          · rintro u w3 ⟨A7, c7, rfl, ho, hb3⟩
            exact ⟨_, rfl, hC.trans (hb3.mono hz), hb3, fun b7 hb _ => ⟨A7, c7, hb 24 rfl, ho.wide hz (Nat.le_refl _)⟩⟩
        · obtain ⟨A7, c7, e1, ho⟩ := hdep ⟨7, .data⟩ (by simp) rfl
          have e1' : a'.tmps[24]?.getD undef = .agg #[.int .i64 s.me, .int .i64 s.round, .int .i64 s.step, .int .i64 s.lv, .int .i64 s.lr, .int .i64 s.vv, .int .i64 s.vr, .int .i64 s.polka, .int .i64 s.dec, .slice A7 l.length c7] := by rw [← Array.getD_eq_getD_getElem?]; exact e1
          have hnb := heap_alloc_new w' (.cells #[.int .i64 s.me, .int .i64 s.round, .int .i64 s.step, .int .i64 s.lv, .int .i64 s.lr, .int .i64 s.vv, .int .i64 s.vr, .int .i64 s.polka, .int .i64 s.dec, .slice A7 l.length c7] 79)
          have hba : Below w'.heap.size w' (w'.alloc (.cells #[.int .i64 s.me, .int .i64 s.round, .int .i64 s.step, .int .i64 s.lv, .int .i64 s.lr, .int .i64 s.vv, .int .i64 s.vr, .int .i64 s.polka, .int .i64 s.dec, .slice A7 l.length c7] 79)) := (Below.refl _ _).alloc (Nat.le_refl _) _
          refine wp_val (w2 := w'.alloc (.cells #[.int .i64 s.me, .int .i64 s.round, .int .i64 s.step, .int .i64 s.lv, .int .i64 s.lr, .int .i64 s.vv, .int .i64 s.vr, .int .i64 s.polka, .int .i64 s.dec, .slice A7 l.length c7] 79)) (.slice (some ⟨w'.heap.size, 0, none⟩) 1 1) (fun K hK => ?_) ⟨_, rfl, hC.alloc hz _, hba, fun b7 hb hb2 => ⟨w'.heap.size, A7, c7, hb 25 rfl, hz, hnb, (ho.below hba (Nat.le_refl _)).wide (Nat.le_refl _) hba.size⟩⟩
          clear hsame hdep hnb hba
          unfold Oper.wp
          simp [execOp, Act.eval, e1', go_sem]
          exact hK
      · intro a' w' hC ha hP
        obtain ⟨q, A3, c3, e1, hq, hbq, ho⟩ := hP 8 (by simp)
        have e0 : a'.tmps.getD 18 undef = .slice A' k c' := hP 1 (by simp)
        clear hP
        simp only [coreOps, List.filterMap_cons, List.filterMap_nil, List.getElem?_cons_zero, List.getElem?_cons_succ, fillA, slotOf, Act.put, e0, e1, List.setIfInBounds_toArray, List.set_cons_zero, List.set_cons_succ] at ha
        generalize a'.tmps.getD 17 undef = u17 at ha
        generalize a'.tmps.getD 19 undef = u19 at ha
        generalize a'.tmps.getD 20 undef = u20 at ha
        generalize a'.tmps.getD 21 undef = u21 at ha
        generalize a'.tmps.getD 22 undef = u22 at ha
        generalize a'.tmps.getD 23 undef = u23 at ha
        generalize a'.tmps.getD 24 undef = u24 at ha
        subst ha
        have hG4 := HGR.out.below hC
        have hzC := hC.size
        have hsq := hbq.lt
        have HX4 := Lib.hid (HX.out.below hC hsr)
        have HC4 := Lib.hid hC
        have HBQ := Lib.hid hbq
        have HO4 := Lib.hid ho
        have HG4 := Lib.hid hG4
        clear hC hbq ho hG4
        show wpAny _ _ _ _ 3 _ _ _
        refine wpAny_ready (rs := [9]) (by kernel_rfl) (by simp) ?_
        refine AllReady.cons rfl (fun K hK => ?_) AllReady.nil
        refine step_app_rd _ rfl _ _ _ rfl (w1.heap.size + 1) 79 i1 _ 10 96 Try.underlying24 hj hy0 hy1 hy2 rfl (by decide) (.slice A' k c') k (lv.flatMap nodeC) rfl (by exact HG4.out.row.owns nodeC_len) _ _ 1 1 _ rfl (by exact Rd.of_blk HBQ.out rfl (Nat.lt_succ_self _)) (node_one ⟨s, A3, l.length, c3⟩) (by unfold maxLen; omega) (by omega) (by omega) ?_
        intro v5 w5 hown hg hat
        obtain ⟨A5, c5, rfl, hG5, hC5⟩ := HGR.out.next (x := ⟨s, l⟩) (by omega) HC4.out HO4.out HPK.out (Below.refl _ _) hown hg
        have HX5 := Lib.hid (show Blk w5 w1.heap.size _ _ from (hC5.block _ (by omega) (.inl (by omega))).trans HX4.out)
        have HG5 := Lib.hid hG5
        have HC5 := Lib.hid hC5
        clear hown hg hat hG5 hC5
        refine hK _ _ ?_
        clear hK K
        have tg5 := HX5.out.cell
        have tf5 := HX5.out.frozen
        have hx5 := HX5.out.lt
        refine wpAny_ready (rs := [10]) (by kernel_rfl) (by simp) ?_
        refine AllReady.cons rfl (fun K hK => ?_) AllReady.nil
        go_simp
        refine hK _ _ ?_
        clear hK K
        refine wpAny_ready (rs := [11]) (by kernel_rfl) (by simp) ?_
        refine AllReady.cons rfl (fun K hK => ?_) AllReady.nil
        go_simp
        refine hK _ _ ?_
        clear hK K
        refine wpAny_done (by kernel_rfl) ?_ _
        go_wp2_with fail
        go_roundw
        case rel =>
          have D : Chg w1.heap.size (w1.heap.size + 1) w5 (w5.setCell ⟨w1.heap.size, 0, none⟩ (.slice A5 (k + 1) c5)) := Chg.setCell (p := ⟨w1.heap.size, 0, none⟩) (Chg.refl _ _ w5) (Nat.le_refl _) (Nat.lt_succ_self _) _
          refine ⟨k + 1, _, A5, c5, by omega, by go_num, HG5.out.chg D (Nat.le_refl _), ?_, ?_⟩
          · have h := HX5.out.set_ 0 (.slice A5 (k + 1) c5)
            simpa using h
          · exact (HB2R.out.trans (HC4.out.mono (by omega))).trans ((HC5.out.below (B := w1.heap.size) (by omega) (by omega)).trans (D.below (Nat.le_refl _) (by omega)))
        case measure => simp [intOf]; omega
    · obtain rfl : k = ln.length := by omega
      have HAR := Lib.hid (HA1.out.below HBR.out (by omega))
      have ta := HAR.out.cell
      have hxr : w.heap.size < wr.heap.size := by omega
      have HR := Lib.hid (HR1.out.below HBR.out (by omega))
      have tg := HX.out.cell
      have rg := HR.out.cell
      have rf := HR.out.frozen
      have hlr := HR.out.lt
      go_wp2_with fail
      have D : ∀ x y, Chg (w.heap.size + 1) (w.heap.size + 1 + 1) wr ((wr.setCell ⟨w.heap.size + 1, 0, none⟩ x).setCell ⟨w.heap.size + 1, 1, none⟩ y) := fun x y => by (repeat (first | with_reducible refine Chg.setCell ?_ (by first | exact Nat.le_refl _ | (simp; done) | (simp; omega)) (by first | (simp; done) | (simp; omega)) _ | with_reducible refine Chg.alloc ?_ _ | with_reducible refine Chg.drew ?_)); (with_reducible exact Chg.refl _ _ _)
      refine bodyPost_ret (v := .agg #[.slice A' ln.length c', .slice P1 lp.length d1]) (by simp [results, Try.results45, go_sem, rg]) rfl ⟨A', c', P1, d1, w1.heap.size + 1, rfl, by omega, ?_, ?_, ?_, ?_⟩
      · simp only [World.size_setCell]; omega
      · have h := (HGR.out.done.chg (D (.slice A' ln.length c') (.slice P1 lp.length d1)) (.inr (by omega))).wide (Nat.le_refl _) (D (.slice A' ln.length c') (.slice P1 lp.length d1)).size
        exact h
      · exact (((HO.out.below HBR.out (Nat.le_refl _)).wide (lo' := w.heap.size + 2) (hi' := w1.heap.size + 1) (by simp) (by omega)).chg (D _ _) (.inr (by omega))).wide (by omega) (Nat.le_refl _)
      · exact HBW.out.trans ((D _ _).below (by omega) (by omega))
end Go.Proofs.Ytjgaelnonacdkaa
