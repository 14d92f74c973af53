/- start and prevote of an acting node. -/
import Derived.Test.YtmpppmeloieamaaActSend
import Derived.StillTailTactics
import Derived.WalkKit
import Derived.WalkSpells
import Derived.WalkLawsBesides
import Derived.Lib.Hide
namespace Go.Proofs.Ytmpppmeloieamaa
open Go.RowKit

set_option maxRecDepth 100000 in
set_option maxHeartbeats 1000000 in
theorem start_any (P : Nat → Prop) (g : Nat) (A : Option Addr) (c : Nat) (B : Option Addr) (d : Nat) (x : RunS) (r : Int) (w : World) (hx : ActAt w P g A c B d x) (hl : x.l.length ≤ 1000) (ho : x.o.length ≤ 1000)
    (h0 : 0 ≤ r) (h1 : r ≤ 1000000) (hme : 1 ≤ x.s.me ∧ x.s.me ≤ 4) :
    Calls Try.prog 37 #[.pointer (some ⟨g, 0, none⟩), .int .i64 r] w (ActOut P g (startR x r) (.tuple #[]) w) := by
  have HX := Lib.hid hx
  have hc := hx.cells
  have hf := hx.free
  have hlt := hx.lt
  have hp1 : propOf r ≤ 4 := by unfold propOf; omega
  have hp0 : 1 ≤ propOf r := by unfold propOf; omega
  clear hx
  go_enter Try.func37, Try.ntmps37
  go_upto_region 3 with fail
  obtain ⟨w1, hw1⟩ : ∃ q, q = (w.setCell ⟨g, 1, none⟩ (.int .i64 r)).setCell ⟨g, 2, none⟩ (.int .i64 1) := ⟨_, rfl⟩
  rw [← hw1]
  have HX1 : Hid (ActAt w1 P g A c B d ⟨atRound x.s r, x.l, x.o⟩) := by
    show ActAt _ _ _ _ _ _ _ _
    rw [hw1]
    exact (HX.out.put 1 (.int .i64 r) ⟨x.s.me, r, x.s.step, x.s.lv, x.s.lr, x.s.vv, x.s.vr, x.s.polka, x.s.dec⟩ rfl).put 2 (.int .i64 1) (atRound x.s r) rfl
  have HK1 : Hid (Keep P w w1) := by show Keep _ _ _; rw [hw1]; exact (HX.out.puts 1 _).setCell HX.out.np _
  clear hw1 hc hf
  have hc := HX1.out.cells
  simp only [atRound] at hc
  have hf := HX1.out.free
  have hlt1 := HX1.out.lt
  cases hp : (propOf r == x.s.me)
  · have HE : Hid (startR x r = ⟨atRound x.s r, x.l, x.o⟩) := by show _ = _; unfold startR; rw [hp]; rfl
    go_quiet ((go_at_call 62; exact quiet_sym (proposerOf_any r _ h0 h1)))
    go_wp2_with fail
    go_end0
    exact ⟨A, c, B, d, rfl, by rw [HE.out]; exact HX1.out.drewN _, HK1.out.drewN _⟩
  · cases hv : (x.s.vr == -1)
    · have HE : Hid (startR x r = sendR ⟨atRound x.s r, x.l, x.o⟩ 1 x.s.vv x.s.vr) := by show _ = _; unfold startR; rw [hp, hv]; rfl
      go_quiet ((go_at_call 62; exact quiet_sym (proposerOf_any r _ h0 h1)))
      go_upto_region 6 with fail
      refine wp_region_still_tail 9 (by kernel_rfl) (by kernel_rfl) ?_
      simp only [List.take_succ_cons, List.take_zero, List.drop_succ_cons, List.drop_zero]
      change wpStill _ _ (World.drew _) _ _ _
      iterate 9 still_step
      refine wpStill_nil ?_
      change wpList _ _ _ _ _ (World.drew _)
      go_wp2_with fail
      refine (send_any P g A c B d ⟨atRound x.s r, x.l, x.o⟩ _ _ _ _ (HX1.out.drewN _).drew hl ho).mono ?_
      rintro e w2 ⟨A2, c2, B2, d2, rfl, ha, hk⟩
      go_wp2_with fail
      go_end0
      exact ⟨A2, c2, B2, d2, rfl, by rw [HE.out]; exact ha, HK1.out.trans (((Keep.refl P w1).drewN _).drew.trans hk)⟩
    · have HE : Hid (startR x r = sendR ⟨atRound x.s r, x.l, x.o⟩ 1 (10 + x.s.me) (-1)) := by show _ = _; unfold startR; rw [hp, hv]; rfl
      go_quiet ((go_at_call 62; exact quiet_sym (proposerOf_any r _ h0 h1)))
      go_wp2_with fail
      refine (send_any P g A c B d ⟨atRound x.s r, x.l, x.o⟩ _ _ _ _ (HX1.out.drewN _) hl ho).mono ?_
      rintro e w2 ⟨A2, c2, B2, d2, rfl, ha, hk⟩
      go_wp2_with fail
      go_end0
      exact ⟨A2, c2, B2, d2, rfl, by rw [HE.out]; exact ha, HK1.out.trans (((Keep.refl P w1).drewN _).trans hk)⟩

set_option maxHeartbeats 1000000 in
theorem prevote_any (P : Nat → Prop) (g : Nat) (A : Option Addr) (c : Nat) (B : Option Addr) (d : Nat) (x : RunS) (v : Int) (b : Bool) (w : World) (hx : ActAt w P g A c B d x) (hl : x.l.length ≤ 1000) (ho : x.o.length ≤ 1000) :
    Calls Try.prog 45 #[.pointer (some ⟨g, 0, none⟩), .int .i64 v, .bool b] w (ActOut P g (prevoteR x (if b = true then v else 0)) (.tuple #[]) w) := by
  have HX := Lib.hid hx
  clear hx
  cases b
  all_goals
    go_enter Try.func45, Try.ntmps45
    go_wp2_with (go_at_call 46; (with_reducible refine (send_any P g A c B d x _ _ _ _ HX.out hl ho).mono ?_); rintro e w2 ⟨A2, c2, B2, d2, rfl, ha, hk⟩; have HA := Lib.hid ha; have hc := ha.cells; have hf := ha.free)
    go_end0
    exact ⟨A2, c2, B2, d2, rfl, HA.out.put 2 (.int .i64 2) _ rfl, hk.trans (HA.out.puts 2 _)⟩
end Go.Proofs.Ytmpppmeloieamaa
