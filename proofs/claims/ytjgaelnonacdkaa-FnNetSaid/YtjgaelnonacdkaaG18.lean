/- ActStart, ActProp, ActProp2: joined into one text. -/
import Derived.StillTailTactics
import Derived.WalkKit
import Derived.WalkSpells
import Derived.WalkLawsBesides
import Derived.Lib.Hide
import Derived.Test.YtjgaelnonacdkaaMActSend
namespace Go.Proofs.Ytjgaelnonacdkaa
open Go.RowKit

set_option maxRecDepth 100000 in
set_option maxHeartbeats 1000000 in
theorem start_any (P : Nat → Prop) (g : Nat) (A : Option Addr) (c : Nat) (B : Option Addr) (d : Nat) (x : RunS) (r : Int) (w : World) (hx : ActAt w P g A c B d x) (hl : x.l.length ≤ 1000) (ho : x.o.length ≤ 1000)
    (h0 : 0 ≤ r) (h1 : r ≤ 1000000) (hme : 1 ≤ x.s.me ∧ x.s.me ≤ 4) :
    Calls Try.prog 101 #[.pointer (some ⟨g, 0, none⟩), .int .i64 r] w (ActOut P g (startR x r) (.tuple #[]) w) := by
  have HX := Lib.hid hx
  have hc := hx.cells
  have hf := hx.free
  have hlt := hx.lt
  have hp1 : propOf r ≤ 4 := by unfold propOf; omega
  have hp0 : 1 ≤ propOf r := by unfold propOf; omega
  clear hx
  go_enter Try.func101, Try.ntmps101
  go_upto_region 3 with fail
  obtain ⟨w1, hw1⟩ : ∃ q, q = (w.setCell ⟨g, 1, none⟩ (.int .i64 r)).setCell ⟨g, 2, none⟩ (.int .i64 1) := ⟨_, rfl⟩
  rw [← hw1]
  have HX1 : Hid (ActAt w1 P g A c B d ⟨atRound x.s r, x.l, x.o⟩) := by
    show ActAt _ _ _ _ _ _ _ _
    rw [hw1]
    exact (HX.out.put 1 (.int .i64 r) ⟨x.s.me, r, x.s.step, x.s.lv, x.s.lr, x.s.vv, x.s.vr, x.s.polka, x.s.dec⟩ rfl).put 2 (.int .i64 1) (atRound x.s r) rfl
  have HK1 : Hid (Keep P w w1) := by show Keep _ _ _; rw [hw1]; exact (HX.out.puts 1 _).setCell HX.out.np _
  clear hw1 hc hf
  have hc := HX1.out.cells
  simp only [atRound] at hc
  have hf := HX1.out.free
  have hlt1 := HX1.out.lt
  cases hp : (propOf r == x.s.me)
  · have HE : Hid (startR x r = ⟨atRound x.s r, x.l, x.o⟩) := by show _ = _; unfold startR; rw [hp]; rfl
    go_quiet ((go_at_call 99; exact quiet_sym (proposerOf_any r _ h0 h1)))
    go_wp2_with fail
    go_end0
    exact ⟨A, c, B, d, rfl, by rw [HE.out]; exact HX1.out.drewN _, HK1.out.drewN _⟩
  · cases hv : (x.s.vr == -1)
    · have HE : Hid (startR x r = sendR ⟨atRound x.s r, x.l, x.o⟩ 1 x.s.vv x.s.vr) := by show _ = _; unfold startR; rw [hp, hv]; rfl
      go_quiet ((go_at_call 99; exact quiet_sym (proposerOf_any r _ h0 h1)))
      go_upto_region 6 with fail
      refine wp_region_still_tail 9 (by kernel_rfl) (by kernel_rfl) ?_
      simp only [List.take_succ_cons, List.take_zero, List.drop_succ_cons, List.drop_zero]
      change wpStill _ _ (World.drew _) _ _ _
      iterate 9 still_step
      refine wpStill_nil ?_
      change wpList _ _ _ _ _ (World.drew _)
      go_wp2_with fail
      refine (send_any P g A c B d ⟨atRound x.s r, x.l, x.o⟩ _ _ _ _ (HX1.out.drewN _).drew hl ho).mono ?_
      rintro e w2 ⟨A2, c2, B2, d2, rfl, ha, hk⟩
      go_wp2_with fail
      go_end0
      exact ⟨A2, c2, B2, d2, rfl, by rw [HE.out]; exact ha, HK1.out.trans (((Keep.refl P w1).drewN _).drew.trans hk)⟩
    · have HE : Hid (startR x r = sendR ⟨atRound x.s r, x.l, x.o⟩ 1 (10 + x.s.me) (-1)) := by show _ = _; unfold startR; rw [hp, hv]; rfl
      go_quiet ((go_at_call 99; exact quiet_sym (proposerOf_any r _ h0 h1)))
      go_wp2_with fail
      refine (send_any P g A c B d ⟨atRound x.s r, x.l, x.o⟩ _ _ _ _ (HX1.out.drewN _) hl ho).mono ?_
      rintro e w2 ⟨A2, c2, B2, d2, rfl, ha, hk⟩
      go_wp2_with fail
      go_end0
      exact ⟨A2, c2, B2, d2, rfl, by rw [HE.out]; exact ha, HK1.out.trans (((Keep.refl P w1).drewN _).trans hk)⟩

set_option maxHeartbeats 1000000 in
theorem prevote_any (P : Nat → Prop) (g : Nat) (A : Option Addr) (c : Nat) (B : Option Addr) (d : Nat) (x : RunS) (v : Int) (b : Bool) (w : World) (hx : ActAt w P g A c B d x) (hl : x.l.length ≤ 1000) (ho : x.o.length ≤ 1000) :
    Calls Try.prog 103 #[.pointer (some ⟨g, 0, none⟩), .int .i64 v, .bool b] w (ActOut P g (prevoteR x (if b = true then v else 0)) (.tuple #[]) w) := by
  have HX := Lib.hid hx
  clear hx
  cases b
  all_goals
    go_enter Try.func103, Try.ntmps103
    go_wp2_with (go_at_call 104; (with_reducible refine (send_any P g A c B d x _ _ _ _ HX.out hl ho).mono ?_); rintro e w2 ⟨A2, c2, B2, d2, rfl, ha, hk⟩; have HA := Lib.hid ha; have hc := ha.cells; have hf := ha.free)
    go_end0
    exact ⟨A2, c2, B2, d2, rfl, HA.out.put 2 (.int .i64 2) _ rfl, hk.trans (HA.out.puts 2 _)⟩
end Go.Proofs.Ytjgaelnonacdkaa
namespace Go.Proofs.Ytjgaelnonacdkaa
open Go.RowKit

theorem noneTo_find {α : Type} {f : α → Bool} {l : List α} (h : noneTo f l l.length = true) : l.find? f = none := by
  rw [List.find?_eq_none]
  intro x hx
  unfold noneTo at h
  rw [List.take_length, List.all_eq_true] at h
  have := h x hx
  simpa using this
theorem hit_find {α : Type} {f : α → Bool} {l : List α} {k : Nat} {x : α} (hk : l[k]? = some x) (h : noneTo f l k = true) (hx : f x = true) : l.find? f = some x := by
  obtain ⟨hlt, he⟩ := List.getElem?_eq_some_iff.1 hk
  have e : l = l.take k ++ x :: l.drop (k + 1) := by
    rw [← he]; simp
  rw [e, List.find?_append]
  have h1 : (l.take k).find? f = none := by
    rw [List.find?_eq_none]
    intro y hy
    unfold noneTo at h
    rw [List.all_eq_true] at h
    have := h y hy
    simpa using this
  rw [h1]
  simp [hx]

def msgV (m : NMsgD) : Value := .agg #[.int .i64 m.k, .int .i64 m.r, .int .i64 m.v, .int .i64 m.p, .int .i64 m.f]
def propV (o : Option NMsgD) : Value := match o with | some m => .tuple #[msgV m, .bool true] | none => .tuple #[msgV ⟨0, 0, 0, 0, 0⟩, .bool false]

theorem clo1_any (m : NMsgD) (w : World) : Calls Try.prog 126 #[msgV m] w fun e w' => e = .returned (.bool (P3 m)) ∧ Below w.heap.size w w' := by
  unfold msgV
  go_enter Try.func126, Try.ntmps126
  go_wp2
  go_ret
  exact ⟨rfl, (by repeat (first | exact Below.refl _ _ | assumption | refine Below.drew ?_ | refine belN ?_ _ | refine Below.alloc ?_ (by first | exact Nat.le_refl _ | (simp; done) | (simp; omega) | omega) _ | refine Below.setCell ?_ (by first | exact Nat.le_refl _ | (simp; done) | (simp; omega) | omega) _ | refine Below.trans ?_ (Below.mono (by assumption) (by first | exact Nat.le_refl _ | (simp; done) | (simp; omega) | omega))))⟩
set_option maxHeartbeats 1000000 in
theorem clo2_any (nb g : Nat) (A : Option Addr) (n c : Nat) (l : List NMsgD) (m : NMsgD) (w : World) (hn : w.cell? ⟨nb, 0, none⟩ = some (.pointer (some ⟨g, 0, none⟩))) (h9 : w.cell? ⟨g, 9, none⟩ = some (.slice A n c)) (hlt : g < w.heap.size) (hnl : nb < w.heap.size)
    (hl : RdL msgC 5 w w.heap.size A n c l) (h6 : n ≤ 1000) :
    Calls Try.prog 127 #[msgV m, .pointer (some ⟨nb, 0, none⟩)] w fun e w' => e = .returned (.bool (P4 l m)) ∧ Below w.heap.size w w' := by
  have HL := Lib.hid hl
  clear hl
  unfold msgV
  cases hp : decide (0 ≤ m.p)
  · have HE : Hid (P4 l m = false) := by show _ = _; unfold P4; rw [hp]; rfl
    go_enter Try.func127, Try.ntmps127
    go_wp2
    go_ret
    exact ⟨by rw [HE.out]; rfl, (by repeat (first | exact Below.refl _ _ | assumption | refine Below.drew ?_ | refine belN ?_ _ | refine Below.alloc ?_ (by first | exact Nat.le_refl _ | (simp; done) | (simp; omega) | omega) _ | refine Below.setCell ?_ (by first | exact Nat.le_refl _ | (simp; done) | (simp; omega) | omega) _ | refine Below.trans ?_ (Below.mono (by assumption) (by first | exact Nat.le_refl _ | (simp; done) | (simp; omega) | omega))))⟩
  · have HE : Hid (P4 l m = decide (3 ≤ countN l 2 m.p m.v)) := by show _ = _; unfold P4; rw [hp]; rfl
    go_enter Try.func127, Try.ntmps127
    go_wp2_with fail
    refine (count_any g A n c l 2 m.p m.v _ ((HL.out.alloc (Nat.le_refl _) _).more (by simp)) (by omega) (by rw [World.cell?_alloc_lt _ _ _ (by exact hlt)]; exact h9) (by simp; omega)).mono ?_
    rintro e w1 ⟨rfl, hb⟩
    go_wp2
    go_ret
    exact ⟨by rw [HE.out]; rfl, (by repeat (first | exact Below.refl _ _ | assumption | refine Below.drew ?_ | refine belN ?_ _ | refine Below.alloc ?_ (by first | exact Nat.le_refl _ | (simp; done) | (simp; omega) | omega) _ | refine Below.setCell ?_ (by first | exact Nat.le_refl _ | (simp; done) | (simp; omega) | omega) _ | refine Below.trans ?_ (Below.mono (by assumption) (by first | exact Nat.le_refl _ | (simp; done) | (simp; omega) | omega))))⟩
set_option maxHeartbeats 1000000 in
theorem clo3_any (nb g : Nat) (A : Option Addr) (n c : Nat) (l : List NMsgD) (r : Int) (m : NMsgD) (w : World) (hn : w.cell? ⟨nb, 0, none⟩ = some (.pointer (some ⟨g, 0, none⟩))) (h1 : w.cell? ⟨g, 1, none⟩ = some (.int .i64 r)) (h9 : w.cell? ⟨g, 9, none⟩ = some (.slice A n c)) (hlt : g < w.heap.size) (hnl : nb < w.heap.size)
    (hl : RdL msgC 5 w w.heap.size A n c l) (h6 : n ≤ 1000) :
    Calls Try.prog 128 #[msgV m, .pointer (some ⟨nb, 0, none⟩)] w fun e w' => e = .returned (.bool (P5 l r m)) ∧ Below w.heap.size w w' := by
  have HL := Lib.hid hl
  clear hl
  unfold msgV
  go_enter Try.func128, Try.ntmps128
  go_wp2_with fail
  obtain ⟨w1, hw1⟩ : ∃ q, q = w.alloc (.cells #[.int .i64 m.k, .int .i64 m.r, .int .i64 m.v, .int .i64 m.p, .int .i64 m.f] 49) := ⟨_, rfl⟩
  rw [← hw1]
  have HB : Hid (Below w.heap.size w w1) := by show Below _ _ _; rw [hw1]; exact (by repeat (first | exact Below.refl _ _ | assumption | refine Below.drew ?_ | refine belN ?_ _ | refine Below.alloc ?_ (by first | exact Nat.le_refl _ | (simp; done) | (simp; omega) | omega) _ | refine Below.setCell ?_ (by first | exact Nat.le_refl _ | (simp; done) | (simp; omega) | omega) _ | refine Below.trans ?_ (Below.mono (by assumption) (by first | exact Nat.le_refl _ | (simp; done) | (simp; omega) | omega))))
  have t2 : w1.cell? ⟨w.heap.size, 2, none⟩ = some (.int .i64 m.v) := by rw [hw1]; simp
  have hs : w.heap.size < w1.heap.size := by rw [hw1]; simp
  have hnl1 : nb < w1.heap.size := by omega
  have hlt1 : g < w1.heap.size := by omega
  have tn := (HB.out.cell (p := ⟨nb, 0, none⟩) hnl).trans hn
  have t1 := (HB.out.cell (p := ⟨g, 1, none⟩) hlt).trans h1
  have t9 := (HB.out.cell (p := ⟨g, 9, none⟩) hlt).trans h9
  have HL1 := Lib.hid ((HL.out.below HB.out (Nat.le_refl _)).more (Nat.le_of_lt hs))
  clear hw1 hn h1 h9
  refine wp_region_below (by kernel_rfl) (by kernel_rfl) ?_
  repeat (first | go_big_quiet_skip | (go_big_quiet_want; go_big_quiet_op; first | go_big_quiet_on | (apply Exists.intro; refine ⟨fun w1 hC => ?_, ?_⟩; (focus (first | rfl | (go_at_call 63; exact quiet_below hC (count_any g A n c l 2 r m.v _ (by exact (HL1.out.below hC (Nat.le_refl _)).more hC.size) (by omega) (by exact ((bcell hC).1 _ _ hlt1).trans t9) (by have := hC.size; omega))) | (simp [(bcell hC).1, hs, hnl1, hlt1, tn, t1, t2]; done) | (simp [(bcell hC).1, hs, hnl1, hlt1, tn, t1, t2]; rfl))); go_big_quiet_on)))
  refine wpQuiet_nil ?_
  intro w2 hb2
  obtain ⟨hc2, hf2, hz2⟩ := bcell hb2
  go_wp2
  go_ret
  exact ⟨rfl, HB.out.trans (hb2.mono (Nat.le_of_lt hs))⟩
end Go.Proofs.Ytjgaelnonacdkaa
namespace Go.Proofs.Ytjgaelnonacdkaa
open Go.RowKit

set_option maxRecDepth 100000 in
set_option maxHeartbeats 2000000 in
theorem proposal1_any (P : Nat → Prop) (g : Nat) (A : Option Addr) (c : Nat) (B : Option Addr) (d : Nat) (x : RunS) (w : World) (hx : ActAt w P g A c B d x) (hl : x.l.length ≤ 1000) :
    Calls Try.prog 125 #[.pointer (some ⟨g, 0, none⟩), .func (.func 126) #[] #[]] w fun e w' => e = .returned (propV (propBy x P3)) ∧ Below w.heap.size w w' := by
  have HX := Lib.hid hx
  have hc := hx.cells
  have hlt := hx.lt
  have HR1 := Lib.hid hx.rows.rl
  have hcm := HR1.out.2.2.2.1
  unfold maxLen at hcm
  clear hx
  go_enter Try.func125, Try.ntmps125
  go_wp2_with fail
  go_loopw [14] (fun i wr => ∃ k : Nat, k ≤ x.l.length ∧ i = .int .i64 k ∧ Below w.heap.size w wr ∧ Blk wr w.heap.size 49 #[.int .i64 0, .int .i64 0, .int .i64 0, .int .i64 0, .int .i64 0] ∧ noneTo (propP x.s P3) x.l k = true) (fun i _ => x.l.length - (intOf i).toNat)
  case atStart => exact ⟨0, by omega, rfl, (Below.refl _ _).alloc (Nat.le_refl _) _, heap_alloc_new w _, noneTo_zero _ _⟩
  case round =>
    obtain ⟨k, hk, rfl, hb, hz0, hno⟩ := hrel
    have HN := Lib.hid hno
    have HW0 := Lib.hid hb
    have HZ0 := Lib.hid hz0
    have tz0 := hz0.cell
    have tf0 := hz0.frozen
    have hzlt := hz0.lt
    have hz0s : w.heap.size ≤ wr.heap.size := hb.size
    have hzf := hz0.frozen
    clear hno hb hz0
    by_cases hkn : k < x.l.length
    · obtain ⟨b, off, p, rfl, hb1, hp, c0, c1, c2, c3, c4⟩ := msg_cells (HR1.out.below HW0.out (Nat.le_refl _)) hkn
      have HP := Lib.hid hp
      clear hp
      go_upto_region 4 with fail
      obtain ⟨w1, hw1⟩ : ∃ q, q = wr.alloc (.cells #[.int .i64 p.k, .int .i64 p.r, .int .i64 p.v, .int .i64 p.p, .int .i64 p.f] 49) := ⟨_, rfl⟩
      rw [← hw1]
      have HM : Hid (Blk w1 wr.heap.size 49 #[.int .i64 p.k, .int .i64 p.r, .int .i64 p.v, .int .i64 p.p, .int .i64 p.f]) := by show Blk _ _ _ _; rw [hw1]; exact heap_alloc_new wr _
      have HW : Hid (Below w.heap.size w w1) := by show Below _ _ _; rw [hw1]; exact HW0.out.alloc hz0s _
      have HZ : Hid (Blk w1 w.heap.size 49 #[.int .i64 0, .int .i64 0, .int .i64 0, .int .i64 0, .int .i64 0]) := by show Blk _ _ _ _; rw [hw1]; exact HZ0.out.alloc _
      have hs1 : wr.heap.size < w1.heap.size := HM.out.lt
      clear hw1 tz0 tf0 c0 c1 c2 c3 c4
      have tm := HM.out.cell
      have tz := HZ.out.cell
      have tc : ∀ i, w1.cell? ⟨g, i, none⟩ = _ := fun i => (HW.out.cell (p := ⟨g, i, none⟩) hlt).trans (hc i)
      have hg1 : g < w1.heap.size := by omega
      cases g1 : (p.k == 1)
      · have HE : Hid (propP x.s P3 p = false) := by show _ = _; unfold propP; rw [g1]; rfl
        refine wp_region_below (by kernel_rfl) (by kernel_rfl) ?_
        repeat (first | go_big_quiet_skip | (go_big_quiet_want; go_big_quiet_op; first | go_big_quiet_on | (apply Exists.intro; refine ⟨fun w1 hC => ?_, ?_⟩; (focus (first | rfl | fail | (simp [(bcell hC).1, hs1, tm]; done) | (simp [(bcell hC).1, hs1, tm]; rfl))); go_big_quiet_on)))
        refine wpQuiet_nil ?_
        intro w2 hb2
        obtain ⟨hc2, hf2, hz2⟩ := bcell hb2
        go_wp2
        go_roundw
        case rel => exact ⟨k + 1, by omega, by go_num, HW.out.trans (hb2.mono (by omega)), HZ.out.below hb2 (by omega), noneTo_succ HP.out HN.out HE.out⟩
        case measure => simp [intOf]; omega
      cases g2 : (p.r == x.s.round)
      · have HE : Hid (propP x.s P3 p = false) := by show _ = _; unfold propP; rw [g1, g2]; rfl
        refine wp_region_below (by kernel_rfl) (by kernel_rfl) ?_
        repeat (first | go_big_quiet_skip | (go_big_quiet_want; go_big_quiet_op; first | go_big_quiet_on | (apply Exists.intro; refine ⟨fun w1 hC => ?_, ?_⟩; (focus (first | rfl | fail | (simp [(bcell hC).1, hs1, hg1, tm, tc]; done) | (simp [(bcell hC).1, hs1, hg1, tm, tc]; rfl))); go_big_quiet_on)))
        refine wpQuiet_nil ?_
        intro w2 hb2
        obtain ⟨hc2, hf2, hz2⟩ := bcell hb2
        go_wp2
        go_roundw
        case rel => exact ⟨k + 1, by omega, by go_num, HW.out.trans (hb2.mono (by omega)), HZ.out.below hb2 (by omega), noneTo_succ HP.out HN.out HE.out⟩
        case measure => simp [intOf]; omega
      cases g3 : P3 p
      · have HE : Hid (propP x.s P3 p = false) := by show _ = _; unfold propP; rw [g1, g2, g3]; rfl
        refine wp_region_below (by kernel_rfl) (by kernel_rfl) ?_
        repeat (first | go_big_quiet_skip | (go_big_quiet_want; go_big_quiet_op; first | go_big_quiet_on | (apply Exists.intro; refine ⟨fun w1 hC => ?_, ?_⟩; (focus (first | rfl | (go_at_call 126; have HC := HW.out.trans (hC.mono (by omega)); have HCS := HC.size; refine (clo1_any p _).mono ?_; rw [g3]; rintro e w9 ⟨rfl, hb9⟩; exact ⟨rfl, hC.trans (hb9.mono hC.size)⟩) | (simp [(bcell hC).1, hs1, hg1, tm, tc]; done) | (simp [(bcell hC).1, hs1, hg1, tm, tc]; rfl))); go_big_quiet_on)))
        refine wpQuiet_nil ?_
        intro w2 hb2
        obtain ⟨hc2, hf2, hz2⟩ := bcell hb2
        go_wp2
        go_roundw
        case rel => exact ⟨k + 1, by omega, by go_num, HW.out.trans (hb2.mono (by omega)), HZ.out.below hb2 (by omega), noneTo_succ HP.out HN.out HE.out⟩
        case measure => simp [intOf]; omega
      · have HE : Hid (propBy x P3 = some p) := hit_find HP.out HN.out (by unfold propP; rw [g1, g2, g3]; rfl)
        refine wp_region_below (by kernel_rfl) (by kernel_rfl) ?_
        repeat (first | go_big_quiet_skip | (go_big_quiet_want; go_big_quiet_op; first | go_big_quiet_on | (apply Exists.intro; refine ⟨fun w1 hC => ?_, ?_⟩; (focus (first | rfl | (go_at_call 126; have HC := HW.out.trans (hC.mono (by omega)); have HCS := HC.size; refine (clo1_any p _).mono ?_; rw [g3]; rintro e w9 ⟨rfl, hb9⟩; exact ⟨rfl, hC.trans (hb9.mono hC.size)⟩) | (simp [(bcell hC).1, hs1, hg1, tm, tc]; done) | (simp [(bcell hC).1, hs1, hg1, tm, tc]; rfl))); go_big_quiet_on)))
        refine wpQuiet_nil ?_
        intro w2 hb2
        obtain ⟨hc2, hf2, hz2⟩ := bcell hb2
        have hlz : w.heap.size < w1.heap.size := HZ.out.lt
        have tm2 : ∀ o, w2.cell? ⟨wr.heap.size, o, none⟩ = _ := fun o => (hc2 _ _ hs1).trans (tm o)
        have tz2 : ∀ o, w2.cell? ⟨w.heap.size, o, none⟩ = _ := fun o => (hc2 _ _ hlz).trans (tz o)
        have tf2 : ∀ o, w2.frozen? ⟨w.heap.size, o, none⟩ = false := fun o => (hf2 _ _ hlz).trans (HZ.out.frozen o)
        have hw0 : w.heap.size ≤ w1.heap.size := by omega
        have HB2 : Hid (Below w.heap.size w w2) := HW.out.trans (hb2.mono hw0)
        clear hc2 hf2 hb2 tm tz tc
        go_wp2
        refine bodyPost_ret (v := .tuple #[.agg #[.int .i64 p.k, .int .i64 p.r, .int .i64 p.v, .int .i64 p.p, .int .i64 p.f], .bool true]) (by simp [results, Try.results125, go_sem, tz2]) rfl ⟨by rw [HE.out]; rfl, ?_⟩
        repeat with_reducible refine Below.setCell ?_ (by with_reducible exact Nat.le_refl _) _
        with_reducible exact HB2.out
    · obtain rfl : k = x.l.length := by omega
      have HE : Hid (propBy x P3 = none) := noneTo_find HN.out
      go_wp2
      refine bodyPost_ret (v := .tuple #[.agg #[.int .i64 0, .int .i64 0, .int .i64 0, .int .i64 0, .int .i64 0], .bool false]) (by simp [results, Try.results125, go_sem, tz0]) rfl ⟨by rw [HE.out]; rfl, ?_⟩
      repeat with_reducible refine Below.setCell ?_ (by with_reducible exact Nat.le_refl _) _
      with_reducible exact HW0.out

set_option maxRecDepth 100000 in
set_option maxHeartbeats 2000000 in
theorem proposal2_any (P : Nat → Prop) (g : Nat) (A : Option Addr) (c : Nat) (B : Option Addr) (d : Nat) (x : RunS) (w : World) (hx : ActAt w P g A c B d x) (hl : x.l.length ≤ 1000) (nb : Nat) (hn : w.cell? ⟨nb, 0, none⟩ = some (.pointer (some ⟨g, 0, none⟩))) (hnl : nb < w.heap.size) :
    Calls Try.prog 125 #[.pointer (some ⟨g, 0, none⟩), .func (.func 127) #[] #[.pointer (some ⟨nb, 0, none⟩)]] w fun e w' => e = .returned (propV (propBy x (P4 x.l))) ∧ Below w.heap.size w w' := by
  have HX := Lib.hid hx
  have hc := hx.cells
  have hlt := hx.lt
  have HR1 := Lib.hid hx.rows.rl
  have hcm := HR1.out.2.2.2.1
  unfold maxLen at hcm
  clear hx
  go_enter Try.func125, Try.ntmps125
  go_wp2_with fail
  go_loopw [14] (fun i wr => ∃ k : Nat, k ≤ x.l.length ∧ i = .int .i64 k ∧ Below w.heap.size w wr ∧ Blk wr w.heap.size 49 #[.int .i64 0, .int .i64 0, .int .i64 0, .int .i64 0, .int .i64 0] ∧ noneTo (propP x.s (P4 x.l)) x.l k = true) (fun i _ => x.l.length - (intOf i).toNat)
  case atStart => exact ⟨0, by omega, rfl, (Below.refl _ _).alloc (Nat.le_refl _) _, heap_alloc_new w _, noneTo_zero _ _⟩
  case round =>
    obtain ⟨k, hk, rfl, hb, hz0, hno⟩ := hrel
    have HN := Lib.hid hno
    have HW0 := Lib.hid hb
    have HZ0 := Lib.hid hz0
    have tz0 := hz0.cell
    have tf0 := hz0.frozen
    have hzlt := hz0.lt
    have hz0s : w.heap.size ≤ wr.heap.size := hb.size
    have hzf := hz0.frozen
    clear hno hb hz0
    by_cases hkn : k < x.l.length
    · obtain ⟨b, off, p, rfl, hb1, hp, c0, c1, c2, c3, c4⟩ := msg_cells (HR1.out.below HW0.out (Nat.le_refl _)) hkn
      have HP := Lib.hid hp
      clear hp
      go_upto_region 4 with fail
      obtain ⟨w1, hw1⟩ : ∃ q, q = wr.alloc (.cells #[.int .i64 p.k, .int .i64 p.r, .int .i64 p.v, .int .i64 p.p, .int .i64 p.f] 49) := ⟨_, rfl⟩
      rw [← hw1]
      have HM : Hid (Blk w1 wr.heap.size 49 #[.int .i64 p.k, .int .i64 p.r, .int .i64 p.v, .int .i64 p.p, .int .i64 p.f]) := by show Blk _ _ _ _; rw [hw1]; exact heap_alloc_new wr _
      have HW : Hid (Below w.heap.size w w1) := by show Below _ _ _; rw [hw1]; exact HW0.out.alloc hz0s _
      have HZ : Hid (Blk w1 w.heap.size 49 #[.int .i64 0, .int .i64 0, .int .i64 0, .int .i64 0, .int .i64 0]) := by show Blk _ _ _ _; rw [hw1]; exact HZ0.out.alloc _
      have hs1 : wr.heap.size < w1.heap.size := HM.out.lt
      clear hw1 tz0 tf0 c0 c1 c2 c3 c4
      have tm := HM.out.cell
      have tz := HZ.out.cell
      have tc : ∀ i, w1.cell? ⟨g, i, none⟩ = _ := fun i => (HW.out.cell (p := ⟨g, i, none⟩) hlt).trans (hc i)
      have hg1 : g < w1.heap.size := by omega
      cases g1 : (p.k == 1)
      · have HE : Hid (propP x.s (P4 x.l) p = false) := by show _ = _; unfold propP; rw [g1]; rfl
        refine wp_region_below (by kernel_rfl) (by kernel_rfl) ?_
        repeat (first | go_big_quiet_skip | (go_big_quiet_want; go_big_quiet_op; first | go_big_quiet_on | (apply Exists.intro; refine ⟨fun w1 hC => ?_, ?_⟩; (focus (first | rfl | fail | (simp [(bcell hC).1, hs1, tm]; done) | (simp [(bcell hC).1, hs1, tm]; rfl))); go_big_quiet_on)))
        refine wpQuiet_nil ?_
        intro w2 hb2
        obtain ⟨hc2, hf2, hz2⟩ := bcell hb2
        go_wp2
        go_roundw
        case rel => exact ⟨k + 1, by omega, by go_num, HW.out.trans (hb2.mono (by omega)), HZ.out.below hb2 (by omega), noneTo_succ HP.out HN.out HE.out⟩
        case measure => simp [intOf]; omega
      cases g2 : (p.r == x.s.round)
      · have HE : Hid (propP x.s (P4 x.l) p = false) := by show _ = _; unfold propP; rw [g1, g2]; rfl
        refine wp_region_below (by kernel_rfl) (by kernel_rfl) ?_
        repeat (first | go_big_quiet_skip | (go_big_quiet_want; go_big_quiet_op; first | go_big_quiet_on | (apply Exists.intro; refine ⟨fun w1 hC => ?_, ?_⟩; (focus (first | rfl | fail | (simp [(bcell hC).1, hs1, hg1, tm, tc]; done) | (simp [(bcell hC).1, hs1, hg1, tm, tc]; rfl))); go_big_quiet_on)))
        refine wpQuiet_nil ?_
        intro w2 hb2
        obtain ⟨hc2, hf2, hz2⟩ := bcell hb2
        go_wp2
        go_roundw
        case rel => exact ⟨k + 1, by omega, by go_num, HW.out.trans (hb2.mono (by omega)), HZ.out.below hb2 (by omega), noneTo_succ HP.out HN.out HE.out⟩
        case measure => simp [intOf]; omega
      cases g3 : (P4 x.l) p
      · have HE : Hid (propP x.s (P4 x.l) p = false) := by show _ = _; unfold propP; rw [g1, g2, g3]; rfl
        refine wp_region_below (by kernel_rfl) (by kernel_rfl) ?_
        repeat (first | go_big_quiet_skip | (go_big_quiet_want; go_big_quiet_op; first | go_big_quiet_on | (apply Exists.intro; refine ⟨fun w1 hC => ?_, ?_⟩; (focus (first | rfl | (go_at_call 127; have HC := HW.out.trans (hC.mono (by omega)); have HCS := HC.size; refine (clo2_any nb g _ x.l.length c x.l p _ (by exact (HC.cell (p := ⟨nb, 0, none⟩) hnl).trans hn) (by exact (HC.cell (p := ⟨g, 9, none⟩) hlt).trans (hc 9)) (by omega) (by omega) (by exact (HR1.out.below HC (Nat.le_refl _)).more HCS) (by omega)).mono ?_; rw [g3]; rintro e w9 ⟨rfl, hb9⟩; exact ⟨rfl, hC.trans (hb9.mono hC.size)⟩) | (simp [(bcell hC).1, hs1, hg1, tm, tc]; done) | (simp [(bcell hC).1, hs1, hg1, tm, tc]; rfl))); go_big_quiet_on)))
        refine wpQuiet_nil ?_
        intro w2 hb2
        obtain ⟨hc2, hf2, hz2⟩ := bcell hb2
        go_wp2
        go_roundw
        case rel => exact ⟨k + 1, by omega, by go_num, HW.out.trans (hb2.mono (by omega)), HZ.out.below hb2 (by omega), noneTo_succ HP.out HN.out HE.out⟩
        case measure => simp [intOf]; omega
      · have HE : Hid (propBy x (P4 x.l) = some p) := hit_find HP.out HN.out (by unfold propP; rw [g1, g2, g3]; rfl)
        refine wp_region_below (by kernel_rfl) (by kernel_rfl) ?_
        repeat (first | go_big_quiet_skip | (go_big_quiet_want; go_big_quiet_op; first | go_big_quiet_on | (apply Exists.intro; refine ⟨fun w1 hC => ?_, ?_⟩; (focus (first | rfl | (go_at_call 127; have HC := HW.out.trans (hC.mono (by omega)); have HCS := HC.size; refine (clo2_any nb g _ x.l.length c x.l p _ (by exact (HC.cell (p := ⟨nb, 0, none⟩) hnl).trans hn) (by exact (HC.cell (p := ⟨g, 9, none⟩) hlt).trans (hc 9)) (by omega) (by omega) (by exact (HR1.out.below HC (Nat.le_refl _)).more HCS) (by omega)).mono ?_; rw [g3]; rintro e w9 ⟨rfl, hb9⟩; exact ⟨rfl, hC.trans (hb9.mono hC.size)⟩) | (simp [(bcell hC).1, hs1, hg1, tm, tc]; done) | (simp [(bcell hC).1, hs1, hg1, tm, tc]; rfl))); go_big_quiet_on)))
        refine wpQuiet_nil ?_
        intro w2 hb2
        obtain ⟨hc2, hf2, hz2⟩ := bcell hb2
        have hlz : w.heap.size < w1.heap.size := HZ.out.lt
        have tm2 : ∀ o, w2.cell? ⟨wr.heap.size, o, none⟩ = _ := fun o => (hc2 _ _ hs1).trans (tm o)
        have tz2 : ∀ o, w2.cell? ⟨w.heap.size, o, none⟩ = _ := fun o => (hc2 _ _ hlz).trans (tz o)
        have tf2 : ∀ o, w2.frozen? ⟨w.heap.size, o, none⟩ = false := fun o => (hf2 _ _ hlz).trans (HZ.out.frozen o)
        have hw0 : w.heap.size ≤ w1.heap.size := by omega
        have HB2 : Hid (Below w.heap.size w w2) := HW.out.trans (hb2.mono hw0)
        clear hc2 hf2 hb2 tm tz tc
        go_wp2
        refine bodyPost_ret (v := .tuple #[.agg #[.int .i64 p.k, .int .i64 p.r, .int .i64 p.v, .int .i64 p.p, .int .i64 p.f], .bool true]) (by simp [results, Try.results125, go_sem, tz2]) rfl ⟨by rw [HE.out]; rfl, ?_⟩
        repeat with_reducible refine Below.setCell ?_ (by with_reducible exact Nat.le_refl _) _
        with_reducible exact HB2.out
    · obtain rfl : k = x.l.length := by omega
      have HE : Hid (propBy x (P4 x.l) = none) := noneTo_find HN.out
      go_wp2
      refine bodyPost_ret (v := .tuple #[.agg #[.int .i64 0, .int .i64 0, .int .i64 0, .int .i64 0, .int .i64 0], .bool false]) (by simp [results, Try.results125, go_sem, tz0]) rfl ⟨by rw [HE.out]; rfl, ?_⟩
      repeat with_reducible refine Below.setCell ?_ (by with_reducible exact Nat.le_refl _) _
      with_reducible exact HW0.out

set_option maxRecDepth 100000 in
set_option maxHeartbeats 2000000 in
theorem proposal3_any (P : Nat → Prop) (g : Nat) (A : Option Addr) (c : Nat) (B : Option Addr) (d : Nat) (x : RunS) (w : World) (hx : ActAt w P g A c B d x) (hl : x.l.length ≤ 1000) (nb : Nat) (hn : w.cell? ⟨nb, 0, none⟩ = some (.pointer (some ⟨g, 0, none⟩))) (hnl : nb < w.heap.size) :
    Calls Try.prog 125 #[.pointer (some ⟨g, 0, none⟩), .func (.func 128) #[] #[.pointer (some ⟨nb, 0, none⟩)]] w fun e w' => e = .returned (propV (propBy x (P5 x.l x.s.round))) ∧ Below w.heap.size w w' := by
  have HX := Lib.hid hx
  have hc := hx.cells
  have hlt := hx.lt
  have HR1 := Lib.hid hx.rows.rl
  have hcm := HR1.out.2.2.2.1
  unfold maxLen at hcm
  clear hx
  go_enter Try.func125, Try.ntmps125
  go_wp2_with fail
  go_loopw [14] (fun i wr => ∃ k : Nat, k ≤ x.l.length ∧ i = .int .i64 k ∧ Below w.heap.size w wr ∧ Blk wr w.heap.size 49 #[.int .i64 0, .int .i64 0, .int .i64 0, .int .i64 0, .int .i64 0] ∧ noneTo (propP x.s (P5 x.l x.s.round)) x.l k = true) (fun i _ => x.l.length - (intOf i).toNat)
  case atStart => exact ⟨0, by omega, rfl, (Below.refl _ _).alloc (Nat.le_refl _) _, heap_alloc_new w _, noneTo_zero _ _⟩
  case round =>
    obtain ⟨k, hk, rfl, hb, hz0, hno⟩ := hrel
    have HN := Lib.hid hno
    have HW0 := Lib.hid hb
    have HZ0 := Lib.hid hz0
    have tz0 := hz0.cell
    have tf0 := hz0.frozen
    have hzlt := hz0.lt
    have hz0s : w.heap.size ≤ wr.heap.size := hb.size
    have hzf := hz0.frozen
    clear hno hb hz0
    by_cases hkn : k < x.l.length
    · obtain ⟨b, off, p, rfl, hb1, hp, c0, c1, c2, c3, c4⟩ := msg_cells (HR1.out.below HW0.out (Nat.le_refl _)) hkn
      have HP := Lib.hid hp
      clear hp
      go_upto_region 4 with fail
      obtain ⟨w1, hw1⟩ : ∃ q, q = wr.alloc (.cells #[.int .i64 p.k, .int .i64 p.r, .int .i64 p.v, .int .i64 p.p, .int .i64 p.f] 49) := ⟨_, rfl⟩
      rw [← hw1]
      have HM : Hid (Blk w1 wr.heap.size 49 #[.int .i64 p.k, .int .i64 p.r, .int .i64 p.v, .int .i64 p.p, .int .i64 p.f]) := by show Blk _ _ _ _; rw [hw1]; exact heap_alloc_new wr _
      have HW : Hid (Below w.heap.size w w1) := by show Below _ _ _; rw [hw1]; exact HW0.out.alloc hz0s _
      have HZ : Hid (Blk w1 w.heap.size 49 #[.int .i64 0, .int .i64 0, .int .i64 0, .int .i64 0, .int .i64 0]) := by show Blk _ _ _ _; rw [hw1]; exact HZ0.out.alloc _
      have hs1 : wr.heap.size < w1.heap.size := HM.out.lt
      clear hw1 tz0 tf0 c0 c1 c2 c3 c4
      have tm := HM.out.cell
      have tz := HZ.out.cell
      have tc : ∀ i, w1.cell? ⟨g, i, none⟩ = _ := fun i => (HW.out.cell (p := ⟨g, i, none⟩) hlt).trans (hc i)
      have hg1 : g < w1.heap.size := by omega
      cases g1 : (p.k == 1)
      · have HE : Hid (propP x.s (P5 x.l x.s.round) p = false) := by show _ = _; unfold propP; rw [g1]; rfl
        refine wp_region_below (by kernel_rfl) (by kernel_rfl) ?_
        repeat (first | go_big_quiet_skip | (go_big_quiet_want; go_big_quiet_op; first | go_big_quiet_on | (apply Exists.intro; refine ⟨fun w1 hC => ?_, ?_⟩; (focus (first | rfl | fail | (simp [(bcell hC).1, hs1, tm]; done) | (simp [(bcell hC).1, hs1, tm]; rfl))); go_big_quiet_on)))
        refine wpQuiet_nil ?_
        intro w2 hb2
        obtain ⟨hc2, hf2, hz2⟩ := bcell hb2
        go_wp2
        go_roundw
        case rel => exact ⟨k + 1, by omega, by go_num, HW.out.trans (hb2.mono (by omega)), HZ.out.below hb2 (by omega), noneTo_succ HP.out HN.out HE.out⟩
        case measure => simp [intOf]; omega
      cases g2 : (p.r == x.s.round)
      · have HE : Hid (propP x.s (P5 x.l x.s.round) p = false) := by show _ = _; unfold propP; rw [g1, g2]; rfl
        refine wp_region_below (by kernel_rfl) (by kernel_rfl) ?_
        repeat (first | go_big_quiet_skip | (go_big_quiet_want; go_big_quiet_op; first | go_big_quiet_on | (apply Exists.intro; refine ⟨fun w1 hC => ?_, ?_⟩; (focus (first | rfl | fail | (simp [(bcell hC).1, hs1, hg1, tm, tc]; done) | (simp [(bcell hC).1, hs1, hg1, tm, tc]; rfl))); go_big_quiet_on)))
        refine wpQuiet_nil ?_
        intro w2 hb2
        obtain ⟨hc2, hf2, hz2⟩ := bcell hb2
        go_wp2
        go_roundw
        case rel => exact ⟨k + 1, by omega, by go_num, HW.out.trans (hb2.mono (by omega)), HZ.out.below hb2 (by omega), noneTo_succ HP.out HN.out HE.out⟩
        case measure => simp [intOf]; omega
      cases g3 : (P5 x.l x.s.round) p
      · have HE : Hid (propP x.s (P5 x.l x.s.round) p = false) := by show _ = _; unfold propP; rw [g1, g2, g3]; rfl
        refine wp_region_below (by kernel_rfl) (by kernel_rfl) ?_
        repeat (first | go_big_quiet_skip | (go_big_quiet_want; go_big_quiet_op; first | go_big_quiet_on | (apply Exists.intro; refine ⟨fun w1 hC => ?_, ?_⟩; (focus (first | rfl | (go_at_call 128; have HC := HW.out.trans (hC.mono (by omega)); have HCS := HC.size; refine (clo3_any nb g _ x.l.length c x.l x.s.round p _ (by exact (HC.cell (p := ⟨nb, 0, none⟩) hnl).trans hn) (by exact (HC.cell (p := ⟨g, 1, none⟩) hlt).trans (hc 1)) (by exact (HC.cell (p := ⟨g, 9, none⟩) hlt).trans (hc 9)) (by omega) (by omega) (by exact (HR1.out.below HC (Nat.le_refl _)).more HCS) (by omega)).mono ?_; rw [g3]; rintro e w9 ⟨rfl, hb9⟩; exact ⟨rfl, hC.trans (hb9.mono hC.size)⟩) | (simp [(bcell hC).1, hs1, hg1, tm, tc]; done) | (simp [(bcell hC).1, hs1, hg1, tm, tc]; rfl))); go_big_quiet_on)))
        refine wpQuiet_nil ?_
        intro w2 hb2
        obtain ⟨hc2, hf2, hz2⟩ := bcell hb2
        go_wp2
        go_roundw
        case rel => exact ⟨k + 1, by omega, by go_num, HW.out.trans (hb2.mono (by omega)), HZ.out.below hb2 (by omega), noneTo_succ HP.out HN.out HE.out⟩
        case measure => simp [intOf]; omega
      · have HE : Hid (propBy x (P5 x.l x.s.round) = some p) := hit_find HP.out HN.out (by unfold propP; rw [g1, g2, g3]; rfl)
        refine wp_region_below (by kernel_rfl) (by kernel_rfl) ?_
        repeat (first | go_big_quiet_skip | (go_big_quiet_want; go_big_quiet_op; first | go_big_quiet_on | (apply Exists.intro; refine ⟨fun w1 hC => ?_, ?_⟩; (focus (first | rfl | (go_at_call 128; have HC := HW.out.trans (hC.mono (by omega)); have HCS := HC.size; refine (clo3_any nb g _ x.l.length c x.l x.s.round p _ (by exact (HC.cell (p := ⟨nb, 0, none⟩) hnl).trans hn) (by exact (HC.cell (p := ⟨g, 1, none⟩) hlt).trans (hc 1)) (by exact (HC.cell (p := ⟨g, 9, none⟩) hlt).trans (hc 9)) (by omega) (by omega) (by exact (HR1.out.below HC (Nat.le_refl _)).more HCS) (by omega)).mono ?_; rw [g3]; rintro e w9 ⟨rfl, hb9⟩; exact ⟨rfl, hC.trans (hb9.mono hC.size)⟩) | (simp [(bcell hC).1, hs1, hg1, tm, tc]; done) | (simp [(bcell hC).1, hs1, hg1, tm, tc]; rfl))); go_big_quiet_on)))
        refine wpQuiet_nil ?_
        intro w2 hb2
        obtain ⟨hc2, hf2, hz2⟩ := bcell hb2
        have hlz : w.heap.size < w1.heap.size := HZ.out.lt
        have tm2 : ∀ o, w2.cell? ⟨wr.heap.size, o, none⟩ = _ := fun o => (hc2 _ _ hs1).trans (tm o)
        have tz2 : ∀ o, w2.cell? ⟨w.heap.size, o, none⟩ = _ := fun o => (hc2 _ _ hlz).trans (tz o)
        have tf2 : ∀ o, w2.frozen? ⟨w.heap.size, o, none⟩ = false := fun o => (hf2 _ _ hlz).trans (HZ.out.frozen o)
        have hw0 : w.heap.size ≤ w1.heap.size := by omega
        have HB2 : Hid (Below w.heap.size w w2) := HW.out.trans (hb2.mono hw0)
        clear hc2 hf2 hb2 tm tz tc
        go_wp2
        refine bodyPost_ret (v := .tuple #[.agg #[.int .i64 p.k, .int .i64 p.r, .int .i64 p.v, .int .i64 p.p, .int .i64 p.f], .bool true]) (by simp [results, Try.results125, go_sem, tz2]) rfl ⟨by rw [HE.out]; rfl, ?_⟩
        repeat with_reducible refine Below.setCell ?_ (by with_reducible exact Nat.le_refl _) _
        with_reducible exact HB2.out
    · obtain rfl : k = x.l.length := by omega
      have HE : Hid (propBy x (P5 x.l x.s.round) = none) := noneTo_find HN.out
      go_wp2
      refine bodyPost_ret (v := .tuple #[.agg #[.int .i64 0, .int .i64 0, .int .i64 0, .int .i64 0, .int .i64 0], .bool false]) (by simp [results, Try.results125, go_sem, tz0]) rfl ⟨by rw [HE.out]; rfl, ?_⟩
      repeat with_reducible refine Below.setCell ?_ (by with_reducible exact Nat.le_refl _) _
      with_reducible exact HW0.out
end Go.Proofs.Ytjgaelnonacdkaa
