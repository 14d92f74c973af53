/- One rule of an acting node (written by wip/rule.py). -/
import Derived.WalkKit
import Derived.WalkSpells
import Derived.WalkLawsBesides
import Derived.Lib.Hide
import Derived.Test.YtjgaelnonacdkaaG22
import Derived.Test.YtjgaelnonacdkaaStillMore
namespace Go.Proofs.Ytjgaelnonacdkaa
open Go.RowKit

theorem boolD (b : Bool) : b = true ∨ b = false := by cases b <;> simp
set_option maxRecDepth 100000 in
set_option maxHeartbeats 16000000 in
theorem rule_any (P : Nat → Prop) (g : Nat) (A : Option Addr) (c : Nat) (B : Option Addr) (d : Nat) (x : RunS) (w : World) (hx : ActAt w P g A c B d x) (hP : NodeP x.s x.l) (ho : x.o.length ≤ 900) :
    Calls Try.prog 110 #[.pointer (some ⟨g, 0, none⟩)] w (ActOut P g ((ruleR x).getD x) (.bool (ruleR x).isSome) w) := by
  have hl : x.l.length ≤ 1000 := by have := hP.len; omega
  have ho' : x.o.length ≤ 1000 := by omega
  have hme := hP.me
  have hrd := hP.round
  have HX0 := Lib.hid hx
  have HND := Lib.hid hP
  have hlt0 := hx.lt
  clear hx hP
  go_enter Try.func110, Try.ntmps110
  go_upto_region 2 with fail
  obtain ⟨w1, hw1⟩ : ∃ q, q = w.alloc (.cells #[.pointer (some ⟨g, 0, none⟩)] 115) := ⟨_, rfl⟩
  rw [← hw1]
  have HX : Hid (ActAt w1 (fun q => P q ∨ q = w.heap.size) g A c B d x) := by show ActAt _ _ _ _ _ _ _ _; rw [hw1]; exact HX0.out.new _
  have HN : Hid (Blk w1 w.heap.size 115 #[.pointer (some ⟨g, 0, none⟩)]) := by show Blk _ _ _ _; rw [hw1]; exact heap_alloc_new w _
  have HK : Hid (Keep P w w1) := by show Keep _ _ _; rw [hw1]; exact (Keep.refl P w).alloc HX0.out.ltP _
  clear hw1 HX0
  have tg := HX.out.cells
  have tn := HN.out.cell
  have hltg := HX.out.lt
  have hltn := HN.out.lt

  cases hd : decide (0 < x.s.dec)
  rotate_left
  · have HE : Hid (ruleR x = none) := by show _ = _; unfold ruleR; rw [hd]; rfl
    go_wp2
    go_ret
    exact ⟨A, c, B, d, by rw [HE.out]; rfl, by rw [HE.out]; exact (HX.out).mono fun q hq => .inl hq, HK.out⟩
  cases hr1 : (x.s.round == -1)
  rotate_left
  · have HE : Hid (ruleR x = none) := by show _ = _; unfold ruleR; rw [hd, hr1]; rfl
    go_wp2
    go_ret
    exact ⟨A, c, B, d, by rw [HE.out]; rfl, by rw [HE.out]; exact (HX.out).mono fun q hq => .inl hq, HK.out⟩
  have hr0 : 0 ≤ x.s.round := by rw [beq_eq_false_iff_ne] at hr1; omega
  cases hb : bestOf x.l x.l with
  | some m =>
    have HE : Hid (ruleR x = some ⟨withDec x.s m.v, x.l, x.o⟩) := by show _ = _; unfold ruleR; rw [hd, hr1, hb]; rfl
    have HD : Hid (decR x = ⟨withDec x.s m.v, x.l, x.o⟩) := by show _ = _; unfold decR; rw [hb]
    have HB : Hid ((bestOf x.l x.l).isSome = true) := by show _ = _; rw [hb]; rfl
    clear hb
    go_wp2_with fail
    refine (decide_any _ g A c B d x _ HX.out hl).mono ?_
    rw [HB.out, HD.out]
    rintro e w2 ⟨A2, c2, B2, d2, rfl, ha, hk2⟩
    go_wp2_with fail
    go_ret
    exact ⟨A2, c2, B2, d2, by rw [HE.out]; rfl, by rw [HE.out]; exact (ha).mono fun q hq => .inl hq, HK.out.trans (hk2.mono fun q hq => .inl hq)⟩
  | none =>
  have HD : Hid (decR x = x) := by show _ = _; unfold decR; rw [hb]
  have HB : Hid ((bestOf x.l x.l).isSome = false) := by show _ = _; rw [hb]; rfl
  go_wp2_with fail
  refine (decide_any _ g A c B d x _ HX.out hl).mono ?_
  rw [HB.out, HD.out]
  rintro e w2 ⟨A2, c2, B2, d2, rfl, ha2, hk2⟩
  have HX2 := Lib.hid ha2
  have HK2 := Lib.hid hk2
  clear ha2 hk2 tg tn
  have tn2 := (HK2.out.blk (.inr rfl) HN.out).cell
  cases hs : skipTo x.l x.s.round with
  | some r =>
    have HE : Hid (ruleR x = some (startR x r)) := by show _ = _; unfold ruleR; rw [hd, hr1, hb, hs]; rfl
    have HD2 : Hid (skipR x = startR x r) := by show _ = _; unfold skipR; rw [hs]
    have HB2 : Hid ((skipTo x.l x.s.round).isSome = true) := by show _ = _; rw [hs]; rfl
    clear hs hb
    go_wp2_with fail
    refine (skip_any _ g A2 c2 B2 d2 x _ HX2.out hl ho' hrd.1 hrd.2 hme).mono ?_
    rw [HB2.out, HD2.out]
    rintro e w3 ⟨A3, c3, B3, d3, rfl, ha3, hk3⟩
    go_wp2_with fail
    go_ret
    exact ⟨A3, c3, B3, d3, by rw [HE.out]; rfl, by rw [HE.out]; exact (ha3).mono fun q hq => .inl hq, HK.out.trans ((HK2.out.trans hk3).mono fun q hq => .inl hq)⟩
  | none =>
  have HD2 : Hid (skipR x = x) := by show _ = _; unfold skipR; rw [hs]
  have HB2 : Hid ((skipTo x.l x.s.round).isSome = false) := by show _ = _; rw [hs]; rfl
  go_wp2_with fail
  refine (skip_any _ g A2 c2 B2 d2 x _ HX2.out hl ho' hrd.1 hrd.2 hme).mono ?_
  rw [HB2.out, HD2.out]
  rintro e w3 ⟨A3, c3, B3, d3, rfl, ha3, hk3⟩
  have HX3 := Lib.hid ha3
  have HK3 := Lib.hid (HK2.out.trans hk3)
  clear ha3 hk3 tn2 HX2
  have HN3 := Lib.hid (HK3.out.blk (.inr rfl) HN.out)
  have tn3 := HN3.out.cell
  have tg3 := HX3.out.cells
  have hltg3 := HX3.out.lt
  have hltn3 := HN3.out.lt
  have HRR : Hid (ruleR x = if (x.s.step == 1) = true then rule34 x else rule56 x) := by show _ = _; unfold ruleR; rw [hd, hr1, hb, hs]; rfl
  clear hb hs HD HB HD2 HB2 hd hr1
  cases hst : (x.s.step == 1)
  rotate_left
  · cases h3 : propBy x P3 with
    | some m =>
      have HPR : Hid (propV (propBy x P3) = .tuple #[.agg #[.int .i64 m.k, .int .i64 m.r, .int .i64 m.v, .int .i64 m.p, .int .i64 m.f], .bool true]) := by show _ = _; rw [h3]; rfl
      have HU := Lib.hid h3
      clear h3
      go_wp2_with fail
      refine (proposal1_any _ g A3 c3 B3 d3 x _ HX3.out hl).mono ?_
      rw [HPR.out]
      rintro e w4 ⟨rfl, hb4⟩
      have HX4 := Lib.hid (HX3.out.below hb4)
      have HK4 := Lib.hid (HK3.out.trans (HX3.out.keep hb4))
      clear hb4 tn3 tg3
      go_upto_region 9 with fail
      obtain ⟨w5, hw5⟩ : ∃ q, q = w4.alloc (.cells #[.int .i64 m.k, .int .i64 m.r, .int .i64 m.v, .int .i64 m.p, .int .i64 m.f] 49) := ⟨_, rfl⟩
      rw [← hw5]
      have HX5 : Hid (ActAt w5 (fun q => (P q ∨ q = w.heap.size) ∨ q = w4.heap.size) g A3 c3 B3 d3 x) := by show ActAt _ _ _ _ _ _ _ _; rw [hw5]; exact HX4.out.new _
      have HM5 : Hid (Blk w5 w4.heap.size 49 #[.int .i64 m.k, .int .i64 m.r, .int .i64 m.v, .int .i64 m.p, .int .i64 m.f]) := by show Blk _ _ _ _; rw [hw5]; exact heap_alloc_new w4 _
      have HK5 : Hid (Keep (fun q => P q ∨ q = w.heap.size) w1 w5) := by show Keep _ _ _; rw [hw5]; exact HK4.out.trans ((Keep.refl _ w4).alloc HX4.out.ltP _)
      clear hw5
      have HN5 := Lib.hid (HK5.out.blk (.inr rfl) HN.out)
      have tn5 := HN5.out.cell
      have tg5 := HX5.out.cells
      have tm5 := HM5.out.cell
      have hltg5 := HX5.out.lt
      have hltn5 := HN5.out.lt
      have hltm5 := HM5.out.lt
      cases q1 : (x.s.lr == -1)
      · cases q2 : (x.s.lv == m.v)
        · have HE : Hid (ruleR x = some (prevoteR x (if false = true then m.v else 0))) := by show _ = _; rw [HRR.out, hst]; simp only [if_true]; unfold rule34; rw [HU.out]; simp only; rw [q1, q2]; rfl
          refine region_still 17 (by kernel_rfl) (by kernel_rfl) ?_
          simp only [List.take_succ_cons, List.take_zero, List.drop_succ_cons, List.drop_zero]
          iterate 17 (refine WSt.step (fun K hK => ?_); go_simp; refine hK _ ?_; clear hK K)
          refine WSt.nil ?_
          go_wp2_with fail
          refine (prevote_any _ g A3 c3 B3 d3 x m.v false _ (HX5.out).drew hl ho').mono ?_
          rintro e w9 ⟨A9, c9, B9, d9, rfl, ha, hk9⟩
          go_wp2_with fail
          go_ret
          exact ⟨A9, c9, B9, d9, by rw [HE.out]; rfl, by rw [HE.out]; exact ha.mono fun q hq => .inl (.inl hq), HK.out.trans ((HK5.out.trans ((Keep.refl _ w5).drew.trans (hk9.mono fun q hq => .inl hq))).mono fun q hq => .inl hq)⟩
        · have HE : Hid (ruleR x = some (prevoteR x (if true = true then m.v else 0))) := by show _ = _; rw [HRR.out, hst]; simp only [if_true]; unfold rule34; rw [HU.out]; simp only; rw [q1, q2]; rfl
          refine region_still 17 (by kernel_rfl) (by kernel_rfl) ?_
          simp only [List.take_succ_cons, List.take_zero, List.drop_succ_cons, List.drop_zero]
          iterate 17 (refine WSt.step (fun K hK => ?_); go_simp; refine hK _ ?_; clear hK K)
          refine WSt.nil ?_
          go_wp2_with fail
          refine (prevote_any _ g A3 c3 B3 d3 x m.v true _ (HX5.out).drew hl ho').mono ?_
          rintro e w9 ⟨A9, c9, B9, d9, rfl, ha, hk9⟩
          go_wp2_with fail
          go_ret
          exact ⟨A9, c9, B9, d9, by rw [HE.out]; rfl, by rw [HE.out]; exact ha.mono fun q hq => .inl (.inl hq), HK.out.trans ((HK5.out.trans ((Keep.refl _ w5).drew.trans (hk9.mono fun q hq => .inl hq))).mono fun q hq => .inl hq)⟩
      · have HE : Hid (ruleR x = some (prevoteR x (if true = true then m.v else 0))) := by show _ = _; rw [HRR.out, hst]; simp only [if_true]; unfold rule34; rw [HU.out]; simp only; rw [q1]; rfl
        refine region_still 17 (by kernel_rfl) (by kernel_rfl) ?_
        simp only [List.take_succ_cons, List.take_zero, List.drop_succ_cons, List.drop_zero]
        iterate 17 (refine WSt.step (fun K hK => ?_); go_simp; refine hK _ ?_; clear hK K)
        refine WSt.nil ?_
        go_wp2_with fail
        refine (prevote_any _ g A3 c3 B3 d3 x m.v true _ (HX5.out).drew hl ho').mono ?_
        rintro e w9 ⟨A9, c9, B9, d9, rfl, ha, hk9⟩
        go_wp2_with fail
        go_ret
        exact ⟨A9, c9, B9, d9, by rw [HE.out]; rfl, by rw [HE.out]; exact ha.mono fun q hq => .inl (.inl hq), HK.out.trans ((HK5.out.trans ((Keep.refl _ w5).drew.trans (hk9.mono fun q hq => .inl hq))).mono fun q hq => .inl hq)⟩
    | none =>
    have HPR : Hid (propV (propBy x P3) = .tuple #[.agg #[.int .i64 0, .int .i64 0, .int .i64 0, .int .i64 0, .int .i64 0], .bool false]) := by show _ = _; rw [h3]; rfl
    have HU := Lib.hid h3
    clear h3
    go_wp2_with fail
    refine (proposal1_any _ g A3 c3 B3 d3 x _ HX3.out hl).mono ?_
    rw [HPR.out]
    rintro e w4 ⟨rfl, hb4⟩
    have HX4 := Lib.hid (HX3.out.below hb4)
    have HK4 := Lib.hid (HK3.out.trans (HX3.out.keep hb4))
    clear hb4 tn3 tg3
    go_upto_region 11 with fail
    obtain ⟨w5, hw5⟩ : ∃ q, q = w4.alloc (.cells #[.int .i64 0, .int .i64 0, .int .i64 0, .int .i64 0, .int .i64 0] 49) := ⟨_, rfl⟩
    rw [← hw5]
    have HX5 : Hid (ActAt w5 (fun q => (P q ∨ q = w.heap.size) ∨ q = w4.heap.size) g A3 c3 B3 d3 x) := by show ActAt _ _ _ _ _ _ _ _; rw [hw5]; exact HX4.out.new _
    have HM5 : Hid (Blk w5 w4.heap.size 49 #[.int .i64 0, .int .i64 0, .int .i64 0, .int .i64 0, .int .i64 0]) := by show Blk _ _ _ _; rw [hw5]; exact heap_alloc_new w4 _
    have HK5 : Hid (Keep (fun q => P q ∨ q = w.heap.size) w1 w5) := by show Keep _ _ _; rw [hw5]; exact HK4.out.trans ((Keep.refl _ w4).alloc HX4.out.ltP _)
    clear hw5
    have HN5 := Lib.hid (HK5.out.blk (.inr rfl) HN.out)
    have tn5 := HN5.out.cell
    have tg5 := HX5.out.cells
    have tm5 := HM5.out.cell
    have hltg5 := HX5.out.lt
    have hltn5 := HN5.out.lt
    have hltm5 := HM5.out.lt
    have hmf : ∀ (fn : Fn) (first cap : Array Value) (w : World), (Instr.makeFunc fn first cap).run Try.prog w = .ok (.func fn first cap) w := fun _ _ _ _ => rfl
    cases h4 : propBy x (P4 x.l) with
    | some m =>
      have HPR2 : Hid (propV (propBy x (P4 x.l)) = .tuple #[.agg #[.int .i64 m.k, .int .i64 m.r, .int .i64 m.v, .int .i64 m.p, .int .i64 m.f], .bool true]) := by show _ = _; rw [h4]; rfl
      have HU2 := Lib.hid h4
      clear h4
      go_wp2_with fail
      refine (proposal2_any _ g A3 c3 B3 d3 x _ HX5.out hl w.heap.size (tn5 0) hltn5).mono ?_
      rw [HPR2.out]
      rintro e w6 ⟨rfl, hb6⟩
      have HX6 := Lib.hid ((HX5.out.below hb6).mono (Q := fun q => P q ∨ q = w.heap.size) fun q hq => .inl hq)
      have HK6 := Lib.hid (HK5.out.trans ((HX5.out.keep hb6).mono fun q hq => .inl hq))
      clear hb6 tn5 tg5 tm5 hmf
      go_upto_region 13 with fail
      obtain ⟨w7, hw7⟩ : ∃ q, q = w6.alloc (.cells #[.int .i64 m.k, .int .i64 m.r, .int .i64 m.v, .int .i64 m.p, .int .i64 m.f] 49) := ⟨_, rfl⟩
      rw [← hw7]
      have HX7 : Hid (ActAt w7 (fun q => (P q ∨ q = w.heap.size) ∨ q = w6.heap.size) g A3 c3 B3 d3 x) := by show ActAt _ _ _ _ _ _ _ _; rw [hw7]; exact HX6.out.new _
      have HM7 : Hid (Blk w7 w6.heap.size 49 #[.int .i64 m.k, .int .i64 m.r, .int .i64 m.v, .int .i64 m.p, .int .i64 m.f]) := by show Blk _ _ _ _; rw [hw7]; exact heap_alloc_new w6 _
      have HK7 : Hid (Keep (fun q => P q ∨ q = w.heap.size) w1 w7) := by show Keep _ _ _; rw [hw7]; exact HK6.out.trans ((Keep.refl _ w6).alloc HX6.out.ltP _)
      clear hw7
      have HN7 := Lib.hid (HK7.out.blk (.inr rfl) HN.out)
      have tn7 := HN7.out.cell
      have tg7 := HX7.out.cells
      have tm7 := HM7.out.cell
      have hltg7 := HX7.out.lt
      have hltn7 := HN7.out.lt
      have hltm7 := HM7.out.lt
      cases q1 : decide (x.s.lr ≤ m.p)
      · cases q2 : (x.s.lv == m.v)
        · have HE : Hid (ruleR x = some (prevoteR x (if false = true then m.v else 0))) := by show _ = _; rw [HRR.out, hst]; simp only [if_true]; unfold rule34; rw [HU.out, HU2.out]; simp only; rw [q1, q2]; rfl
          refine region_still 19 (by kernel_rfl) (by kernel_rfl) ?_
          simp only [List.take_succ_cons, List.take_zero, List.drop_succ_cons, List.drop_zero]
          iterate 19 (refine WSt.step (fun K hK => ?_); go_simp; refine hK _ ?_; clear hK K)
          refine WSt.nil ?_
          go_wp2_with fail
          refine (prevote_any _ g A3 c3 B3 d3 x m.v false _ (HX7.out).drew hl ho').mono ?_
          rintro e w9 ⟨A9, c9, B9, d9, rfl, ha, hk9⟩
          go_wp2_with fail
          go_ret
          exact ⟨A9, c9, B9, d9, by rw [HE.out]; rfl, by rw [HE.out]; exact ha.mono fun q hq => .inl (.inl hq), HK.out.trans ((HK7.out.trans ((Keep.refl _ w7).drew.trans (hk9.mono fun q hq => .inl hq))).mono fun q hq => .inl hq)⟩
        · have HE : Hid (ruleR x = some (prevoteR x (if true = true then m.v else 0))) := by show _ = _; rw [HRR.out, hst]; simp only [if_true]; unfold rule34; rw [HU.out, HU2.out]; simp only; rw [q1, q2]; rfl
          refine region_still 19 (by kernel_rfl) (by kernel_rfl) ?_
          simp only [List.take_succ_cons, List.take_zero, List.drop_succ_cons, List.drop_zero]
          iterate 19 (refine WSt.step (fun K hK => ?_); go_simp; refine hK _ ?_; clear hK K)
          refine WSt.nil ?_
          go_wp2_with fail
          refine (prevote_any _ g A3 c3 B3 d3 x m.v true _ (HX7.out).drew hl ho').mono ?_
          rintro e w9 ⟨A9, c9, B9, d9, rfl, ha, hk9⟩
          go_wp2_with fail
          go_ret
          exact ⟨A9, c9, B9, d9, by rw [HE.out]; rfl, by rw [HE.out]; exact ha.mono fun q hq => .inl (.inl hq), HK.out.trans ((HK7.out.trans ((Keep.refl _ w7).drew.trans (hk9.mono fun q hq => .inl hq))).mono fun q hq => .inl hq)⟩
      · have HE : Hid (ruleR x = some (prevoteR x (if true = true then m.v else 0))) := by show _ = _; rw [HRR.out, hst]; simp only [if_true]; unfold rule34; rw [HU.out, HU2.out]; simp only; rw [q1]; rfl
        refine region_still 19 (by kernel_rfl) (by kernel_rfl) ?_
        simp only [List.take_succ_cons, List.take_zero, List.drop_succ_cons, List.drop_zero]
        iterate 19 (refine WSt.step (fun K hK => ?_); go_simp; refine hK _ ?_; clear hK K)
        refine WSt.nil ?_
        go_wp2_with fail
        refine (prevote_any _ g A3 c3 B3 d3 x m.v true _ (HX7.out).drew hl ho').mono ?_
        rintro e w9 ⟨A9, c9, B9, d9, rfl, ha, hk9⟩
        go_wp2_with fail
        go_ret
        exact ⟨A9, c9, B9, d9, by rw [HE.out]; rfl, by rw [HE.out]; exact ha.mono fun q hq => .inl (.inl hq), HK.out.trans ((HK7.out.trans ((Keep.refl _ w7).drew.trans (hk9.mono fun q hq => .inl hq))).mono fun q hq => .inl hq)⟩
    | none =>
    have HPR2 : Hid (propV (propBy x (P4 x.l)) = .tuple #[.agg #[.int .i64 0, .int .i64 0, .int .i64 0, .int .i64 0, .int .i64 0], .bool false]) := by show _ = _; rw [h4]; rfl
    have HE : Hid (ruleR x = none) := by show _ = _; rw [HRR.out, hst]; simp only [if_true]; unfold rule34; rw [HU.out, h4]
    clear h4
    go_wp2_with fail
    refine (proposal2_any _ g A3 c3 B3 d3 x _ HX5.out hl w.heap.size (tn5 0) hltn5).mono ?_
    rw [HPR2.out]
    rintro e w6 ⟨rfl, hb6⟩
    have HX6 := Lib.hid ((HX5.out.below hb6).mono (Q := fun q => P q ∨ q = w.heap.size) fun q hq => .inl hq)
    have HK6 := Lib.hid (HK5.out.trans ((HX5.out.keep hb6).mono fun q hq => .inl hq))
    clear hb6 tn5 tg5 tm5 hmf
    go_wp2
    go_ret
    exact ⟨A3, c3, B3, d3, by rw [HE.out]; rfl, by rw [HE.out]; exact (HX6.out.alloc _).mono fun q hq => .inl hq, HK.out.trans ((HK6.out.trans ((Keep.refl _ w6).alloc HX6.out.ltP _)).mono fun q hq => .inl hq)⟩
  have hmf : ∀ (fn : Fn) (first cap : Array Value) (w : World), (Instr.makeFunc fn first cap).run Try.prog w = .ok (.func fn first cap) w := fun _ _ _ _ => rfl
  go_upto_region 16 with fail
  cases hpk : (x.s.polka == x.s.round)
  rotate_left
  · have hpk' : (x.s.polka != x.s.round) = false := by unfold bne; rw [hpk]; rfl
    refine wp_region_below (by kernel_rfl) (by kernel_rfl) ?_
    repeat (first | go_big_quiet_skip | (go_big_quiet_want; go_big_quiet_op; first | go_big_quiet_on | (apply Exists.intro; refine ⟨fun w1 hC => ?_, ?_⟩; (focus (first | rfl | fail | (simp [(bcell hC).1, hltg3, hltn3, tg3, tn3]; done) | (simp [(bcell hC).1, hltg3, hltn3, tg3, tn3]; rfl))); go_big_quiet_on)))
    refine wpQuiet_nil ?_
    intro w2 hb2
    obtain ⟨hc2, hf2, hz2⟩ := bcell hb2
    have HX4 := Lib.hid (HX3.out.below hb2)
    have HK4 := Lib.hid (HK3.out.trans (HX3.out.keep hb2))
    obtain ⟨w4, hw4⟩ : ∃ q, q = w2 := ⟨_, rfl⟩
    subst hw4
    clear hb2 hc2 hf2 hz2 tg3 tn3
    have HN4 := Lib.hid (HK4.out.blk (.inr rfl) HN.out)
    have tn4 := HN4.out.cell
    have tg4 := HX4.out.cells
    have hltg4 := HX4.out.lt
    have hltn4 := HN4.out.lt
    go_upto_region 28 with fail
    cases s2 : (x.s.step == 2)
    · have HE : Hid (ruleR x = none) := by show _ = _; rw [HRR.out, hst]; simp only [if_neg Bool.false_ne_true]; unfold rule56; rw [hpk, if_pos rfl]; unfold rule6; rw [s2]; rfl
      refine wp_region_below (by kernel_rfl) (by kernel_rfl) ?_
      repeat (first | go_big_quiet_skip | (go_big_quiet_want; go_big_quiet_op; first | go_big_quiet_on | (apply Exists.intro; refine ⟨fun w1 hC => ?_, ?_⟩; (focus (first | rfl | fail | (simp [(bcell hC).1, hltg4, hltn4, tg4, tn4]; done) | (simp [(bcell hC).1, hltg4, hltn4, tg4, tn4]; rfl))); go_big_quiet_on)))
      refine wpQuiet_nil ?_
      intro w2 hb2
      obtain ⟨hc2, hf2, hz2⟩ := bcell hb2
      go_wp2
      go_ret
      exact ⟨A3, c3, B3, d3, by rw [HE.out]; rfl, by rw [HE.out]; exact (HX4.out.below hb2).mono fun q hq => .inl hq, HK.out.trans ((HK4.out.trans ((HX4.out.keep hb2))).mono fun q hq => .inl hq)⟩
    cases s3 : decide (3 ≤ countN x.l 2 x.s.round 0)
    · have HE : Hid (ruleR x = none) := by show _ = _; rw [HRR.out, hst]; simp only [if_neg Bool.false_ne_true]; unfold rule56; rw [hpk, if_pos rfl]; unfold rule6; rw [s2, s3]; rfl
      refine wp_region_below (by kernel_rfl) (by kernel_rfl) ?_
      repeat (first | go_big_quiet_skip | (go_big_quiet_want; go_big_quiet_op; first | go_big_quiet_on | (apply Exists.intro; refine ⟨fun w1 hC => ?_, ?_⟩; (focus (first | rfl | (go_at_call 63; exact quiet_below hC (count_any g A3 x.l.length c3 x.l 2 x.s.round 0 _ (by exact (HX4.out.rows.rl.below hC (Nat.le_refl _)).more hC.size) (by omega) (by exact ((bcell hC).1 _ _ hltg4).trans (tg4 9)) (by have := hC.size; omega))) | (simp [(bcell hC).1, hltg4, hltn4, tg4, tn4]; done) | (simp [(bcell hC).1, hltg4, hltn4, tg4, tn4]; rfl))); go_big_quiet_on)))
      refine wpQuiet_nil ?_
      intro w2 hb2
      obtain ⟨hc2, hf2, hz2⟩ := bcell hb2
      go_wp2
      go_ret
      exact ⟨A3, c3, B3, d3, by rw [HE.out]; rfl, by rw [HE.out]; exact (HX4.out.below hb2).mono fun q hq => .inl hq, HK.out.trans ((HK4.out.trans ((HX4.out.keep hb2))).mono fun q hq => .inl hq)⟩
    · have HE : Hid (ruleR x = some (precommitR x 0)) := by show _ = _; rw [HRR.out, hst]; simp only [if_neg Bool.false_ne_true]; unfold rule56; rw [hpk, if_pos rfl]; unfold rule6; rw [s2, s3]; rfl
      refine wp_region_below (by kernel_rfl) (by kernel_rfl) ?_
      repeat (first | go_big_quiet_skip | (go_big_quiet_want; go_big_quiet_op; first | go_big_quiet_on | (apply Exists.intro; refine ⟨fun w1 hC => ?_, ?_⟩; (focus (first | rfl | (go_at_call 63; exact quiet_below hC (count_any g A3 x.l.length c3 x.l 2 x.s.round 0 _ (by exact (HX4.out.rows.rl.below hC (Nat.le_refl _)).more hC.size) (by omega) (by exact ((bcell hC).1 _ _ hltg4).trans (tg4 9)) (by have := hC.size; omega))) | (simp [(bcell hC).1, hltg4, hltn4, tg4, tn4]; done) | (simp [(bcell hC).1, hltg4, hltn4, tg4, tn4]; rfl))); go_big_quiet_on)))
      refine wpQuiet_nil ?_
      intro w2 hb2
      obtain ⟨hc2, hf2, hz2⟩ := bcell hb2
      have HXa := Lib.hid (HX4.out.below hb2)
      have HKa := Lib.hid (HX4.out.keep hb2)
      clear hb2 hc2 hf2 hz2
      go_wp2_with fail
      refine (send_any _ g A3 c3 B3 d3 x _ _ _ _ HXa.out hl ho').mono ?_
      rintro e w9 ⟨A9, c9, B9, d9, rfl, ha, hk9⟩
      have HX9 := Lib.hid ha
      have HKb := Lib.hid (HKa.out.trans hk9)
      clear ha hk9
      have tn9 := (HKb.out.blk (.inr rfl) HN4.out).cell
      have tg9 := HX9.out.cells
      have tf9 := HX9.out.free
      go_wp2_with fail
      go_ret
      exact ⟨A9, c9, B9, d9, by rw [HE.out]; rfl, by rw [HE.out]; exact (HX9.out.put 2 (.int .i64 3) _ rfl).mono fun q hq => .inl hq, HK.out.trans ((HK4.out.trans ((HKb.out.trans (HX9.out.puts 2 _)))).mono fun q hq => .inl hq)⟩
  have hpk' : (x.s.polka != x.s.round) = true := by unfold bne; rw [hpk]; rfl
  refine wp_region_below (by kernel_rfl) (by kernel_rfl) ?_
  repeat (first | go_big_quiet_skip | (go_big_quiet_want; go_big_quiet_op; first | go_big_quiet_on | (apply Exists.intro; refine ⟨fun w1 hC => ?_, ?_⟩; (focus (first | rfl | fail | (simp [(bcell hC).1, hltg3, hltn3, tg3, tn3]; done) | (simp [(bcell hC).1, hltg3, hltn3, tg3, tn3]; rfl))); go_big_quiet_on)))
  refine wpQuiet_nil ?_
  intro w2 hb2
  obtain ⟨hc2, hf2, hz2⟩ := bcell hb2
  have HX4 := Lib.hid (HX3.out.below hb2)
  have HK4 := Lib.hid (HK3.out.trans (HX3.out.keep hb2))
  obtain ⟨w4, hw4⟩ : ∃ q, q = w2 := ⟨_, rfl⟩
  subst hw4
  clear hb2 hc2 hf2 hz2 tg3 tn3
  have HN4 := Lib.hid (HK4.out.blk (.inr rfl) HN.out)
  have tn4 := HN4.out.cell
  have tg4 := HX4.out.cells
  have hltg4 := HX4.out.lt
  have hltn4 := HN4.out.lt
  cases h5 : propBy x (P5 x.l x.s.round) with
  | none =>
    have HPR : Hid (propV (propBy x (P5 x.l x.s.round)) = .tuple #[.agg #[.int .i64 0, .int .i64 0, .int .i64 0, .int .i64 0, .int .i64 0], .bool false]) := by show _ = _; rw [h5]; rfl
    have HU := Lib.hid h5
    clear h5
    go_wp2_with fail
    refine (proposal3_any _ g A3 c3 B3 d3 x _ HX4.out hl w.heap.size (tn4 0) hltn4).mono ?_
    rw [HPR.out]
    rintro e w5 ⟨rfl, hb5⟩
    have HX5 := Lib.hid (HX4.out.below hb5)
    have HK5 := Lib.hid (HK4.out.trans (HX4.out.keep hb5))
    clear hb5 tn4 tg4
    go_upto_region 28 with fail
    obtain ⟨w6, hw6⟩ : ∃ q, q = w5.alloc (.cells #[.int .i64 0, .int .i64 0, .int .i64 0, .int .i64 0, .int .i64 0] 49) := ⟨_, rfl⟩
    rw [← hw6]
    have HX6 : Hid (ActAt w6 (fun q => (P q ∨ q = w.heap.size) ∨ q = w5.heap.size) g A3 c3 B3 d3 x) := by show ActAt _ _ _ _ _ _ _ _; rw [hw6]; exact HX5.out.new _
    have HM6 : Hid (Blk w6 w5.heap.size 49 #[.int .i64 0, .int .i64 0, .int .i64 0, .int .i64 0, .int .i64 0]) := by show Blk _ _ _ _; rw [hw6]; exact heap_alloc_new w5 _
    have HK6 : Hid (Keep (fun q => P q ∨ q = w.heap.size) w1 w6) := by show Keep _ _ _; rw [hw6]; exact HK5.out.trans ((Keep.refl _ w5).alloc HX5.out.ltP _)
    clear hw6
    have HN6 := Lib.hid (HK6.out.blk (.inr rfl) HN.out)
    have tn6 := HN6.out.cell
    have tg6 := HX6.out.cells
    have tm6 := HM6.out.cell
    have hltg6 := HX6.out.lt
    have hltn6 := HN6.out.lt
    have hltm6 := HM6.out.lt
    cases s2 : (x.s.step == 2)
    · have HE : Hid (ruleR x = none) := by show _ = _; rw [HRR.out, hst]; simp only [if_neg Bool.false_ne_true]; unfold rule56; rw [hpk, if_neg Bool.false_ne_true, HU.out]; simp only; unfold rule6; rw [s2]; rfl
      refine wp_region_below (by kernel_rfl) (by kernel_rfl) ?_
      repeat (first | go_big_quiet_skip | (go_big_quiet_want; go_big_quiet_op; first | go_big_quiet_on | (apply Exists.intro; refine ⟨fun w1 hC => ?_, ?_⟩; (focus (first | rfl | fail | (simp [(bcell hC).1, hltg6, hltn6, tg6, tn6]; done) | (simp [(bcell hC).1, hltg6, hltn6, tg6, tn6]; rfl))); go_big_quiet_on)))
      refine wpQuiet_nil ?_
      intro w2 hb2
      obtain ⟨hc2, hf2, hz2⟩ := bcell hb2
      go_wp2
      go_ret
      exact ⟨A3, c3, B3, d3, by rw [HE.out]; rfl, by rw [HE.out]; exact (HX6.out.below hb2).mono fun q hq => .inl (.inl hq), HK.out.trans ((HK6.out.trans ((HX6.out.keep hb2).mono fun q hq => .inl hq)).mono fun q hq => .inl hq)⟩
    cases s3 : decide (3 ≤ countN x.l 2 x.s.round 0)
    · have HE : Hid (ruleR x = none) := by show _ = _; rw [HRR.out, hst]; simp only [if_neg Bool.false_ne_true]; unfold rule56; rw [hpk, if_neg Bool.false_ne_true, HU.out]; simp only; unfold rule6; rw [s2, s3]; rfl
      refine wp_region_below (by kernel_rfl) (by kernel_rfl) ?_
      repeat (first | go_big_quiet_skip | (go_big_quiet_want; go_big_quiet_op; first | go_big_quiet_on | (apply Exists.intro; refine ⟨fun w1 hC => ?_, ?_⟩; (focus (first | rfl | (go_at_call 63; exact quiet_below hC (count_any g A3 x.l.length c3 x.l 2 x.s.round 0 _ (by exact (HX6.out.rows.rl.below hC (Nat.le_refl _)).more hC.size) (by omega) (by exact ((bcell hC).1 _ _ hltg6).trans (tg6 9)) (by have := hC.size; omega))) | (simp [(bcell hC).1, hltg6, hltn6, tg6, tn6]; done) | (simp [(bcell hC).1, hltg6, hltn6, tg6, tn6]; rfl))); go_big_quiet_on)))
      refine wpQuiet_nil ?_
      intro w2 hb2
      obtain ⟨hc2, hf2, hz2⟩ := bcell hb2
      go_wp2
      go_ret
      exact ⟨A3, c3, B3, d3, by rw [HE.out]; rfl, by rw [HE.out]; exact (HX6.out.below hb2).mono fun q hq => .inl (.inl hq), HK.out.trans ((HK6.out.trans ((HX6.out.keep hb2).mono fun q hq => .inl hq)).mono fun q hq => .inl hq)⟩
    · have HE : Hid (ruleR x = some (precommitR x 0)) := by show _ = _; rw [HRR.out, hst]; simp only [if_neg Bool.false_ne_true]; unfold rule56; rw [hpk, if_neg Bool.false_ne_true, HU.out]; simp only; unfold rule6; rw [s2, s3]; rfl
      refine wp_region_below (by kernel_rfl) (by kernel_rfl) ?_
      repeat (first | go_big_quiet_skip | (go_big_quiet_want; go_big_quiet_op; first | go_big_quiet_on | (apply Exists.intro; refine ⟨fun w1 hC => ?_, ?_⟩; (focus (first | rfl | (go_at_call 63; exact quiet_below hC (count_any g A3 x.l.length c3 x.l 2 x.s.round 0 _ (by exact (HX6.out.rows.rl.below hC (Nat.le_refl _)).more hC.size) (by omega) (by exact ((bcell hC).1 _ _ hltg6).trans (tg6 9)) (by have := hC.size; omega))) | (simp [(bcell hC).1, hltg6, hltn6, tg6, tn6]; done) | (simp [(bcell hC).1, hltg6, hltn6, tg6, tn6]; rfl))); go_big_quiet_on)))
      refine wpQuiet_nil ?_
      intro w2 hb2
      obtain ⟨hc2, hf2, hz2⟩ := bcell hb2
      have HXa := Lib.hid (HX6.out.below hb2)
      have HKa := Lib.hid (HX6.out.keep hb2)
      clear hb2 hc2 hf2 hz2
      go_wp2_with fail
      refine (send_any _ g A3 c3 B3 d3 x _ _ _ _ HXa.out hl ho').mono ?_
      rintro e w9 ⟨A9, c9, B9, d9, rfl, ha, hk9⟩
      have HX9 := Lib.hid ha
      have HKb := Lib.hid (HKa.out.trans hk9)
      clear ha hk9
      have tn9 := (HKb.out.blk (.inl (.inr rfl)) HN6.out).cell
      have tg9 := HX9.out.cells
      have tf9 := HX9.out.free
      go_wp2_with fail
      go_ret
      exact ⟨A9, c9, B9, d9, by rw [HE.out]; rfl, by rw [HE.out]; exact (HX9.out.put 2 (.int .i64 3) _ rfl).mono fun q hq => .inl (.inl hq), HK.out.trans ((HK6.out.trans ((HKb.out.trans (HX9.out.puts 2 _)).mono fun q hq => .inl hq)).mono fun q hq => .inl hq)⟩
  | some m =>
  have HPR : Hid (propV (propBy x (P5 x.l x.s.round)) = .tuple #[.agg #[.int .i64 m.k, .int .i64 m.r, .int .i64 m.v, .int .i64 m.p, .int .i64 m.f], .bool true]) := by show _ = _; rw [h5]; rfl
  have HE : Hid (ruleR x = some (polkaR x m.v)) := by show _ = _; rw [HRR.out, hst]; simp only [if_neg Bool.false_ne_true]; unfold rule56; rw [hpk, if_neg Bool.false_ne_true, h5]
  clear h5
  go_wp2_with fail
  refine (proposal3_any _ g A3 c3 B3 d3 x _ HX4.out hl w.heap.size (tn4 0) hltn4).mono ?_
  rw [HPR.out]
  rintro e w5 ⟨rfl, hb5⟩
  have HX5 := Lib.hid (HX4.out.below hb5)
  have HK5 := Lib.hid (HK4.out.trans (HX4.out.keep hb5))
  clear hb5 tn4 tg4
  go_upto_region 19 with fail
  obtain ⟨w6, hw6⟩ : ∃ q, q = w5.alloc (.cells #[.int .i64 m.k, .int .i64 m.r, .int .i64 m.v, .int .i64 m.p, .int .i64 m.f] 49) := ⟨_, rfl⟩
  rw [← hw6]
  have HX6 : Hid (ActAt w6 (fun q => (P q ∨ q = w.heap.size) ∨ q = w5.heap.size) g A3 c3 B3 d3 x) := by show ActAt _ _ _ _ _ _ _ _; rw [hw6]; exact HX5.out.new _
  have HM6 : Hid (Blk w6 w5.heap.size 49 #[.int .i64 m.k, .int .i64 m.r, .int .i64 m.v, .int .i64 m.p, .int .i64 m.f]) := by show Blk _ _ _ _; rw [hw6]; exact heap_alloc_new w5 _
  have HK6 : Hid (Keep (fun q => P q ∨ q = w.heap.size) w1 w6) := by show Keep _ _ _; rw [hw6]; exact HK5.out.trans ((Keep.refl _ w5).alloc HX5.out.ltP _)
  clear hw6
  have HN6 := Lib.hid (HK6.out.blk (.inr rfl) HN.out)
  have tn6 := HN6.out.cell
  have tg6 := HX6.out.cells
  have tm6 := HM6.out.cell
  have hltg6 := HX6.out.lt
  have hltn6 := HN6.out.lt
  have hltm6 := HM6.out.lt
  have tf6 := HX6.out.free
  cases s2 : (x.s.step == 2)
  · go_upto_region 24 with fail
    go_upto_region 25 with fail
    obtain ⟨wa, hwa⟩ : ∃ q, q = w6.setCell ⟨g, 5, none⟩ (.int .i64 m.v) := ⟨_, rfl⟩
    rw [← hwa]
    have HXa : Hid (ActAt wa (fun q => (P q ∨ q = w.heap.size) ∨ q = w5.heap.size) g A3 c3 B3 d3 ⟨⟨x.s.me, x.s.round, x.s.step, x.s.lv, x.s.lr, m.v, x.s.vr, x.s.polka, x.s.dec⟩, x.l, x.o⟩) := by show ActAt _ _ _ _ _ _ _ _; rw [hwa]; exact HX6.out.put 5 _ _ rfl
    have HKa : Hid (Keep (fun q => (P q ∨ q = w.heap.size) ∨ q = w5.heap.size) w6 wa) := by show Keep _ _ _; rw [hwa]; exact HX6.out.puts 5 _
    clear hwa tn6 tm6 tg6 tf6
    have tna := (HKa.out.blk (.inl (.inr rfl)) HN6.out).cell
    have tga := HXa.out.cells
    have tfa := HXa.out.free
    have hlta := HXa.out.lt
    have hltna := (HKa.out.blk (.inl (.inr rfl)) HN6.out).lt
    go_region
    go_upto_region 26 with fail
    obtain ⟨wb, hwb⟩ : ∃ q, q = wa.drew.setCell ⟨g, 6, none⟩ (.int .i64 x.s.round) := ⟨_, rfl⟩
    first | rw [← hwb] | (rw [show (wa.setCell ⟨g, 6, none⟩ (.int .i64 x.s.round)).drew = wa.drew.setCell ⟨g, 6, none⟩ (.int .i64 x.s.round) from rfl]; rw [← hwb])
    have HXb : Hid (ActAt wb (fun q => (P q ∨ q = w.heap.size) ∨ q = w5.heap.size) g A3 c3 B3 d3 ⟨⟨x.s.me, x.s.round, x.s.step, x.s.lv, x.s.lr, m.v, x.s.round, x.s.polka, x.s.dec⟩, x.l, x.o⟩) := by show ActAt _ _ _ _ _ _ _ _; rw [hwb]; exact HXa.out.drew.put 6 _ _ rfl
    have HKb : Hid (Keep (fun q => (P q ∨ q = w.heap.size) ∨ q = w5.heap.size) w6 wb) := by show Keep _ _ _; rw [hwb]; exact HKa.out.drew.trans (HXa.out.drew.puts 6 _)
    clear hwb tna tga tfa
    have tnb := (HKb.out.blk (.inl (.inr rfl)) HN6.out).cell
    have tgb := HXb.out.cells
    have tfb := HXb.out.free
    have hltb := HXb.out.lt
    have hltnb := (HKb.out.blk (.inl (.inr rfl)) HN6.out).lt
    go_region
    go_wp2_with fail
    go_ret
    refine ⟨A3, c3, B3, d3, by rw [HE.out]; rfl, ?_, HK.out.trans ((HK6.out.trans (((HKb.out.trans (by first | exact (HXb.out.puts 7 _).drew | exact (Keep.refl _ wb).drew.trans (HXb.out.drew.puts 7 _)))).mono fun q hq => .inl hq)).mono fun q hq => .inl hq)⟩
    rw [HE.out]
    have hend : polkaR x m.v = ⟨withValid x.s m.v x.s.round, x.l, x.o⟩ := by unfold polkaR; rw [s2]; rfl
    show ActAt _ _ _ _ _ _ _ (polkaR x m.v)
    rw [hend]
    have hfin := (HXb.out.drew.put 7 (.int .i64 x.s.round) (withValid x.s m.v x.s.round) rfl).mono (Q := P) fun q hq => .inl (.inl hq)
    exact hfin
  · go_upto_region 21 with fail
    obtain ⟨w7, hw7⟩ : ∃ q, q = w6.setCell ⟨g, 3, none⟩ (.int .i64 m.v) := ⟨_, rfl⟩
    rw [← hw7]
    have HX7 : Hid (ActAt w7 (fun q => (P q ∨ q = w.heap.size) ∨ q = w5.heap.size) g A3 c3 B3 d3 ⟨⟨x.s.me, x.s.round, x.s.step, m.v, x.s.lr, x.s.vv, x.s.vr, x.s.polka, x.s.dec⟩, x.l, x.o⟩) := by show ActAt _ _ _ _ _ _ _ _; rw [hw7]; exact HX6.out.put 3 _ _ rfl
    have HK7 : Hid (Keep (fun q => (P q ∨ q = w.heap.size) ∨ q = w5.heap.size) w6 w7) := by show Keep _ _ _; rw [hw7]; exact HX6.out.puts 3 _
    clear hw7 tn6 tm6 tg6 tf6
    have tn7 := (HK7.out.blk (.inl (.inr rfl)) HN6.out).cell
    have hltn7 := (HK7.out.blk (.inl (.inr rfl)) HN6.out).lt
    have tm7 := (HK7.out.blk (.inr rfl) HM6.out).cell
    have tg7 := HX7.out.cells
    have tf7 := HX7.out.free
    have hltg7 := HX7.out.lt
    go_region
    go_upto_region 22 with fail
    obtain ⟨w8, hw8⟩ : ∃ q, q = w7.drew.setCell ⟨g, 4, none⟩ (.int .i64 x.s.round) := ⟨_, rfl⟩
    first | rw [← hw8] | (rw [show (w7.setCell ⟨g, 4, none⟩ (.int .i64 x.s.round)).drew = w7.drew.setCell ⟨g, 4, none⟩ (.int .i64 x.s.round) from rfl]; rw [← hw8])
    have HX8 : Hid (ActAt w8 (fun q => (P q ∨ q = w.heap.size) ∨ q = w5.heap.size) g A3 c3 B3 d3 (lockR x m.v)) := by show ActAt _ _ _ _ _ _ _ _; rw [hw8]; exact HX7.out.drew.put 4 _ _ rfl
    have HK8 : Hid (Keep (fun q => (P q ∨ q = w.heap.size) ∨ q = w5.heap.size) w6 w8) := by show Keep _ _ _; rw [hw8]; exact HK7.out.drew.trans (HX7.out.drew.puts 4 _)
    clear hw8 tn7 tm7 tg7 tf7
    have tn8 := (HK8.out.blk (.inl (.inr rfl)) HN6.out).cell
    have tm8 := (HK8.out.blk (.inr rfl) HM6.out).cell
    go_wp2_with fail
    refine (send_any _ g A3 c3 B3 d3 (lockR x m.v) _ _ _ _ HX8.out hl ho').mono ?_
    rintro e w9 ⟨A9, c9, B9, d9, rfl, ha, hk9⟩
    have HX9 := Lib.hid ha
    have HK9 := Lib.hid (HK8.out.trans hk9)
    clear ha hk9 tn8 tm8
    have tn9 := (HK9.out.blk (.inl (.inr rfl)) HN6.out).cell
    have tm9 := (HK9.out.blk (.inr rfl) HM6.out).cell
    have tg9 := HX9.out.cells
    have tf9 := HX9.out.free
    go_upto_region 24 with fail
    obtain ⟨w10, hw10⟩ : ∃ q, q = w9.setCell ⟨g, 2, none⟩ (.int .i64 3) := ⟨_, rfl⟩
    rw [← hw10]
    have HX10 : Hid (ActAt w10 (fun q => (P q ∨ q = w.heap.size) ∨ q = w5.heap.size) g A9 c9 B9 d9 (precommitR (lockR x m.v) m.v)) := by show ActAt _ _ _ _ _ _ _ _; rw [hw10]; exact HX9.out.put 2 _ _ rfl
    have HK10 : Hid (Keep (fun q => (P q ∨ q = w.heap.size) ∨ q = w5.heap.size) w6 w10) := by show Keep _ _ _; rw [hw10]; exact HK9.out.trans (HX9.out.puts 2 _)
    clear hw10 tn9 tm9 tg9 tf9
    have HN10 := Lib.hid (HK10.out.blk (.inl (.inr rfl)) HN6.out)
    have tn10 := HN10.out.cell
    have tm10 := (HK10.out.blk (.inr rfl) HM6.out).cell
    have tg10 := HX10.out.cells
    have tf10 := HX10.out.free
    go_upto_region 25 with fail
    obtain ⟨wa, hwa⟩ : ∃ q, q = w10.setCell ⟨g, 5, none⟩ (.int .i64 m.v) := ⟨_, rfl⟩
    rw [← hwa]
    have HXa : Hid (ActAt wa (fun q => (P q ∨ q = w.heap.size) ∨ q = w5.heap.size) g A9 c9 B9 d9 ⟨⟨(precommitR (lockR x m.v) m.v).s.me, (precommitR (lockR x m.v) m.v).s.round, (precommitR (lockR x m.v) m.v).s.step, (precommitR (lockR x m.v) m.v).s.lv, (precommitR (lockR x m.v) m.v).s.lr, m.v, (precommitR (lockR x m.v) m.v).s.vr, (precommitR (lockR x m.v) m.v).s.polka, (precommitR (lockR x m.v) m.v).s.dec⟩, (precommitR (lockR x m.v) m.v).l, (precommitR (lockR x m.v) m.v).o⟩) := by show ActAt _ _ _ _ _ _ _ _; rw [hwa]; exact HX10.out.put 5 _ _ rfl
    have HKa : Hid (Keep (fun q => (P q ∨ q = w.heap.size) ∨ q = w5.heap.size) w10 wa) := by show Keep _ _ _; rw [hwa]; exact HX10.out.puts 5 _
    clear hwa tn10 tm10 tg10 tf10
    have tna := (HKa.out.blk (.inl (.inr rfl)) HN10.out).cell
    have tga := HXa.out.cells
    have tfa := HXa.out.free
    have hlta := HXa.out.lt
    have hltna := (HKa.out.blk (.inl (.inr rfl)) HN10.out).lt
    go_region
    go_upto_region 26 with fail
    obtain ⟨wb, hwb⟩ : ∃ q, q = wa.drew.setCell ⟨g, 6, none⟩ (.int .i64 (precommitR (lockR x m.v) m.v).s.round) := ⟨_, rfl⟩
    first | rw [← hwb] | (rw [show (wa.setCell ⟨g, 6, none⟩ (.int .i64 (precommitR (lockR x m.v) m.v).s.round)).drew = wa.drew.setCell ⟨g, 6, none⟩ (.int .i64 (precommitR (lockR x m.v) m.v).s.round) from rfl]; rw [← hwb])
    have HXb : Hid (ActAt wb (fun q => (P q ∨ q = w.heap.size) ∨ q = w5.heap.size) g A9 c9 B9 d9 ⟨⟨(precommitR (lockR x m.v) m.v).s.me, (precommitR (lockR x m.v) m.v).s.round, (precommitR (lockR x m.v) m.v).s.step, (precommitR (lockR x m.v) m.v).s.lv, (precommitR (lockR x m.v) m.v).s.lr, m.v, (precommitR (lockR x m.v) m.v).s.round, (precommitR (lockR x m.v) m.v).s.polka, (precommitR (lockR x m.v) m.v).s.dec⟩, (precommitR (lockR x m.v) m.v).l, (precommitR (lockR x m.v) m.v).o⟩) := by show ActAt _ _ _ _ _ _ _ _; rw [hwb]; exact HXa.out.drew.put 6 _ _ rfl
    have HKb : Hid (Keep (fun q => (P q ∨ q = w.heap.size) ∨ q = w5.heap.size) w10 wb) := by show Keep _ _ _; rw [hwb]; exact HKa.out.drew.trans (HXa.out.drew.puts 6 _)
    clear hwb tna tga tfa
    have tnb := (HKb.out.blk (.inl (.inr rfl)) HN10.out).cell
    have tgb := HXb.out.cells
    have tfb := HXb.out.free
    have hltb := HXb.out.lt
    have hltnb := (HKb.out.blk (.inl (.inr rfl)) HN10.out).lt
    go_region
    go_wp2_with fail
    go_ret
    refine ⟨A9, c9, B9, d9, by rw [HE.out]; rfl, ?_, HK.out.trans ((HK6.out.trans ((HK10.out.trans (HKb.out.trans (by first | exact (HXb.out.puts 7 _).drew | exact (Keep.refl _ wb).drew.trans (HXb.out.drew.puts 7 _)))).mono fun q hq => .inl hq)).mono fun q hq => .inl hq)⟩
    rw [HE.out]
    have hend : polkaR x m.v = ⟨withValid (precommitR (lockR x m.v) m.v).s m.v (precommitR (lockR x m.v) m.v).s.round, (precommitR (lockR x m.v) m.v).l, (precommitR (lockR x m.v) m.v).o⟩ := by unfold polkaR; rw [s2]; rfl
    show ActAt _ _ _ _ _ _ _ (polkaR x m.v)
    rw [hend]
    have hfin := (HXb.out.drew.put 7 (.int .i64 (precommitR (lockR x m.v) m.v).s.round) (withValid (precommitR (lockR x m.v) m.v).s m.v (precommitR (lockR x m.v) m.v).s.round) rfl).mono (Q := P) fun q hq => .inl (.inl hq)
    exact hfin
end Go.Proofs.Ytjgaelnonacdkaa
