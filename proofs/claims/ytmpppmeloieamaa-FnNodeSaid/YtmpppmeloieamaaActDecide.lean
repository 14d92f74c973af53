/- decide of an acting node. -/
import Derived.Test.YtmpppmeloieamaaActProp2
import Derived.WalkKit
import Derived.WalkSpells
import Derived.WalkLawsBesides
import Derived.Lib.Hide
namespace Go.Proofs.Ytmpppmeloieamaa
open Go.RowKit

def decR (x : RunS) : RunS := match bestOf x.l x.l with | some m => ⟨withDec x.s m.v, x.l, x.o⟩ | none => x
def bestC (b : Option NMsgD) : NMsgD := b.getD ⟨0, 0, 0, 0, 0⟩
theorem best_next {all l : List NMsgD} {k : Nat} {p : NMsgD} (h : l[k]? = some p) : (l.take (k + 1)).foldl (bestStep all) none = bestStep all ((l.take k).foldl (bestStep all) none) p := by
  rw [List.take_add_one, h, List.foldl_append]; rfl

set_option maxRecDepth 100000 in
set_option maxHeartbeats 4000000 in
theorem decide_any (P : Nat → Prop) (g : Nat) (A : Option Addr) (c : Nat) (B : Option Addr) (d : Nat) (x : RunS) (w : World) (hx : ActAt w P g A c B d x) (hl : x.l.length ≤ 1000) :
    Calls Try.prog 70 #[.pointer (some ⟨g, 0, none⟩)] w (ActOut P g (decR x) (.bool (bestOf x.l x.l).isSome) w) := by
  have HX := Lib.hid hx
  have hc := hx.cells
  have hlt := hx.lt
  have HR1 := Lib.hid hx.rows.rl
  have hcm := HR1.out.2.2.2.1
  unfold maxLen at hcm
  clear hx
  go_enter Try.func70, Try.ntmps70
  go_wp2_with fail
  go_loopw [4, 14] (fun f i wr => ∃ (k : Nat) (b : Option NMsgD), k ≤ x.l.length ∧ i = .int .i64 k ∧ f = .bool b.isSome ∧ b = (x.l.take k).foldl (bestStep x.l) none ∧ Below w.heap.size w wr ∧ Blk wr w.heap.size 40 #[.int .i64 (bestC b).k, .int .i64 (bestC b).r, .int .i64 (bestC b).v, .int .i64 (bestC b).p, .int .i64 (bestC b).f]) (fun _ i _ => x.l.length - (intOf i).toNat)
  case atStart => exact ⟨0, none, by omega, rfl, rfl, rfl, (Below.refl _ _).alloc (Nat.le_refl _) _, heap_alloc_new w _⟩
  case round =>
    obtain ⟨k, bst, hk, rfl, rfl, hbst, hb, hz0⟩ := hrel
    have HBST := Lib.hid hbst
    have HW0 := Lib.hid hb
    have HZ0 := Lib.hid hz0
    have hzlt := hz0.lt
    have hz0s : w.heap.size ≤ wr.heap.size := hb.size
    clear hb hz0 hbst
    by_cases hkn : k < x.l.length
    · obtain ⟨b, off, p, rfl, hb1, hp, c0, c1, c2, c3, c4⟩ := msg_cells (HR1.out.below HW0.out (Nat.le_refl _)) hkn
      have HN := Lib.hid (best_next (all := x.l) hp)
      clear hp
      go_upto_region 5 with fail
      obtain ⟨w1, hw1⟩ : ∃ q, q = wr.alloc (.cells #[.int .i64 p.k, .int .i64 p.r, .int .i64 p.v, .int .i64 p.p, .int .i64 p.f] 40) := ⟨_, rfl⟩
      rw [← hw1]
      have HM : Hid (Blk w1 wr.heap.size 40 #[.int .i64 p.k, .int .i64 p.r, .int .i64 p.v, .int .i64 p.p, .int .i64 p.f]) := by show Blk _ _ _ _; rw [hw1]; exact heap_alloc_new wr _
      have HW : Hid (Below w.heap.size w w1) := by show Below _ _ _; rw [hw1]; exact HW0.out.alloc hz0s _
      have HZ : Hid (Blk w1 w.heap.size 40 #[.int .i64 (bestC bst).k, .int .i64 (bestC bst).r, .int .i64 (bestC bst).v, .int .i64 (bestC bst).p, .int .i64 (bestC bst).f]) := by show Blk _ _ _ _; rw [hw1]; exact HZ0.out.alloc _
      have hs1 : wr.heap.size < w1.heap.size := HM.out.lt
      clear hw1 c0 c1 c2 c3 c4
      have tm := HM.out.cell
      have tc : ∀ i, w1.cell? ⟨g, i, none⟩ = _ := fun i => (HW.out.cell (p := ⟨g, i, none⟩) hlt).trans (hc i)
      have hg1 : g < w1.heap.size := by omega
      cases g1 : (p.k == 1)
      · have HE : Hid (bestStep x.l bst p = bst) := by show _ = _; unfold bestStep goodB; rw [g1]; rfl
        have g1' : (p.k != 1) = true := by unfold bne; rw [g1]; rfl
        refine wp_region_below (by kernel_rfl) (by kernel_rfl) ?_
        repeat (first | go_big_quiet_skip | (go_big_quiet_want; go_big_quiet_op; first | go_big_quiet_on | (apply Exists.intro; refine ⟨fun w1 hC => ?_, ?_⟩; (focus (first | rfl | fail | (simp [(bcell hC).1, hs1, hg1, tm, tc]; done) | (simp [(bcell hC).1, hs1, hg1, tm, tc]; rfl))); go_big_quiet_on)))
        refine wpQuiet_nil ?_
        intro w2 hb2
        obtain ⟨hc2, hf2, hz2⟩ := bcell hb2
        go_wp2
        go_roundw
        case rel => exact ⟨k + 1, bst, by omega, by go_num, rfl, by rw [HN.out, ← HBST.out, HE.out], HW.out.trans (hb2.mono (by omega)), HZ.out.below hb2 (by omega)⟩
        case measure => simp [intOf]; omega
      have g1' : (p.k != 1) = false := by unfold bne; rw [g1]; rfl
      cases g2 : decide (countN x.l 3 p.r p.v < 3)
      rotate_left
      · have HE : Hid (bestStep x.l bst p = bst) := by
          show _ = _
          rw [decide_eq_true_eq] at g2
          have h3 : decide (3 ≤ countN x.l 3 p.r p.v) = false := decide_eq_false (by omega)
          unfold bestStep goodB; rw [h3, Bool.and_false]; rfl
        refine wp_region_below (by kernel_rfl) (by kernel_rfl) ?_
        repeat (first | go_big_quiet_skip | (go_big_quiet_want; go_big_quiet_op; first | go_big_quiet_on | (apply Exists.intro; refine ⟨fun w1 hC => ?_, ?_⟩; (focus (first | rfl | (go_at_call 56; exact quiet_below hC (count_any g _ x.l.length c x.l 3 p.r p.v _ (by exact (HR1.out.below (HW.out.trans (hC.mono (by omega))) (Nat.le_refl _)).more (by have := hC.size; omega)) (by omega) (by exact ((bcell hC).1 _ _ hg1).trans (tc 9)) (by have := hC.size; omega))) | (simp [(bcell hC).1, hs1, hg1, tm, tc]; done) | (simp [(bcell hC).1, hs1, hg1, tm, tc]; rfl))); go_big_quiet_on)))
        refine wpQuiet_nil ?_
        intro w2 hb2
        obtain ⟨hc2, hf2, hz2⟩ := bcell hb2
        go_wp2
        go_roundw
        case rel => exact ⟨k + 1, bst, by omega, by go_num, rfl, by rw [HN.out, ← HBST.out, HE.out], HW.out.trans (hb2.mono (by omega)), HZ.out.below hb2 (by omega)⟩
        case measure => simp [intOf]; omega
      have HG : Hid (goodB x.l p = true) := by
        show _ = _
        rw [decide_eq_false_iff_not] at g2
        have h3 : decide (3 ≤ countN x.l 3 p.r p.v) = true := decide_eq_true (by omega)
        unfold goodB; rw [g1, h3]; rfl
      refine wp_region_below (by kernel_rfl) (by kernel_rfl) ?_
      repeat (first | go_big_quiet_skip | (go_big_quiet_want; go_big_quiet_op; first | go_big_quiet_on | (apply Exists.intro; refine ⟨fun w1 hC => ?_, ?_⟩; (focus (first | rfl | (go_at_call 56; exact quiet_below hC (count_any g _ x.l.length c x.l 3 p.r p.v _ (by exact (HR1.out.below (HW.out.trans (hC.mono (by omega))) (Nat.le_refl _)).more (by have := hC.size; omega)) (by omega) (by exact ((bcell hC).1 _ _ hg1).trans (tc 9)) (by have := hC.size; omega))) | (simp [(bcell hC).1, hs1, hg1, tm, tc]; done) | (simp [(bcell hC).1, hs1, hg1, tm, tc]; rfl))); go_big_quiet_on)))
      refine wpQuiet_nil ?_
      intro w2 hb2
      obtain ⟨hc2, hf2, hz2⟩ := bcell hb2
      have hlz : w.heap.size < w1.heap.size := HZ.out.lt
      have tm2 : ∀ o, w2.cell? ⟨wr.heap.size, o, none⟩ = _ := fun o => (hc2 _ _ hs1).trans (tm o)
      have HZ2 := Lib.hid (HZ.out.below hb2 hlz)
      have tz2 := HZ2.out.cell
      have tf2 := HZ2.out.frozen
      have hw0 : w.heap.size ≤ w1.heap.size := by omega
      have hne : w.heap.size ≠ wr.heap.size := by omega
      have hlt2 : w.heap.size < w2.heap.size := HZ2.out.lt
      have HB2 : Hid (Below w.heap.size w w2) := HW.out.trans (hb2.mono hw0)
      clear hc2 hf2 hb2 tm tc
      have hset : ∀ e : NMsgD, Blk (((((w2.setCell ⟨w.heap.size, 0, none⟩ (.int .i64 e.k)).setCell ⟨w.heap.size, 1, none⟩ (.int .i64 e.r)).setCell ⟨w.heap.size, 2, none⟩ (.int .i64 e.v)).setCell ⟨w.heap.size, 3, none⟩ (.int .i64 e.p)).setCell ⟨w.heap.size, 4, none⟩ (.int .i64 e.f)) w.heap.size 40 #[.int .i64 e.k, .int .i64 e.r, .int .i64 e.v, .int .i64 e.p, .int .i64 e.f] := fun e => by
        have h := ((((HZ2.out.set_ 0 (.int .i64 e.k)).set_ 1 (.int .i64 e.r)).set_ 2 (.int .i64 e.v)).set_ 3 (.int .i64 e.p)).set_ 4 (.int .i64 e.f)
        simp only [List.setIfInBounds_toArray, List.set_cons_zero, List.set_cons_succ] at h
        exact h
      have HS := Lib.hid hset
      clear hset
      cases bst with
      | none =>
        have HE : Hid (bestStep x.l none p = some p) := by show _ = _; unfold bestStep; rw [HG.out]; rfl
        go_wp2
        go_roundw
        case rel =>
          refine ⟨k + 1, some p, by omega, by go_num, rfl, by rw [HN.out, ← HBST.out, HE.out], ?_, HS.out p⟩
          repeat with_reducible refine Below.setCell ?_ (by with_reducible exact Nat.le_refl _) _
          with_reducible exact HB2.out
        case measure => simp [intOf]; omega
      | some q =>
        simp only [bestC, Option.getD_some] at tz2
        cases hbet : betterB p q
        · have HE : Hid (bestStep x.l (some q) p = some q) := by show _ = _; unfold bestStep; rw [HG.out]; simp [hbet]
          have HB := Lib.hid hbet
          clear hbet
          have h1 : decide (p.r < q.r) = false := by have := HB.out; unfold betterB at this; cases h : decide (p.r < q.r) <;> simp_all
          cases h2 : (p.r == q.r)
          · go_wp2
            go_roundw
            case rel => exact ⟨k + 1, some q, by omega, by go_num, rfl, by rw [HN.out, ← HBST.out, HE.out], HB2.out, HZ2.out⟩
            case measure => simp [intOf]; omega
          · have h3 : decide (p.v < q.v) = false := by have := HB.out; unfold betterB at this; cases h : decide (p.v < q.v) <;> simp_all
            go_wp2
            go_roundw
            case rel => exact ⟨k + 1, some q, by omega, by go_num, rfl, by rw [HN.out, ← HBST.out, HE.out], HB2.out, HZ2.out⟩
            case measure => simp [intOf]; omega
        · have HE : Hid (bestStep x.l (some q) p = some p) := by show _ = _; unfold bestStep; rw [HG.out]; simp [hbet]
          have HB := Lib.hid hbet
          clear hbet
          cases h1 : decide (p.r < q.r)
          · have h23 : (p.r == q.r) = true ∧ decide (p.v < q.v) = true := by have := HB.out; unfold betterB at this; rw [h1, Bool.false_or, Bool.and_eq_true] at this; exact this
            obtain ⟨h2, h3⟩ := h23
            go_wp2
            go_roundw
            case rel =>
              refine ⟨k + 1, some p, by omega, by go_num, rfl, by rw [HN.out, ← HBST.out, HE.out], ?_, HS.out p⟩
              repeat with_reducible refine Below.setCell ?_ (by with_reducible exact Nat.le_refl _) _
              with_reducible exact HB2.out
            case measure => simp [intOf]; omega
          · go_wp2
            go_roundw
            case rel =>
              refine ⟨k + 1, some p, by omega, by go_num, rfl, by rw [HN.out, ← HBST.out, HE.out], ?_, HS.out p⟩
              repeat with_reducible refine Below.setCell ?_ (by with_reducible exact Nat.le_refl _) _
              with_reducible exact HB2.out
            case measure => simp [intOf]; omega
    · obtain rfl : k = x.l.length := by omega
      have HBB : Hid (bestOf x.l x.l = bst) := by show _ = _; unfold bestOf; have := HBST.out; rw [List.take_length] at this; exact this.symm
      have HXr := Lib.hid (HX.out.below HW0.out)
      have hcr := HXr.out.cells
      have hfr := HXr.out.free
      have hz := HZ0.out.cell
      cases bst with
      | none =>
        go_wp2
        go_ret
        exact ⟨A, c, B, d, by rw [HBB.out]; rfl, by unfold decR; rw [HBB.out]; exact HXr.out, HX.out.keep HW0.out⟩
      | some q =>
        simp only [bestC, Option.getD_some] at hz
        go_wp2
        go_ret
        refine ⟨A, c, B, d, by rw [HBB.out]; rfl, ?_, (HX.out.keep HW0.out).trans (HXr.out.puts 8 _)⟩
        unfold decR
        rw [HBB.out]
        exact HXr.out.put 8 _ _ rfl
end Go.Proofs.Ytmpppmeloieamaa
