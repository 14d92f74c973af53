/- ActDecide, ActSkip, RunDecide: joined into one text. -/
import Derived.WalkKit
import Derived.WalkSpells
import Derived.WalkLawsBesides
import Derived.Lib.Hide
import Derived.Test.YtjgaelnonacdkaaG18
import Derived.Test.YtjgaelnonacdkaaG21
namespace Go.Proofs.Ytjgaelnonacdkaa
open Go.RowKit

def decR (x : RunS) : RunS := match bestOf x.l x.l with | some m => ⟨withDec x.s m.v, x.l, x.o⟩ | none => x
def bestC (b : Option NMsgD) : NMsgD := b.getD ⟨0, 0, 0, 0, 0⟩
theorem best_next {all l : List NMsgD} {k : Nat} {p : NMsgD} (h : l[k]? = some p) : (l.take (k + 1)).foldl (bestStep all) none = bestStep all ((l.take k).foldl (bestStep all) none) p := by
  rw [List.take_add_one, h, List.foldl_append]; rfl

set_option maxRecDepth 100000 in
set_option maxHeartbeats 4000000 in
theorem decide_any (P : Nat → Prop) (g : Nat) (A : Option Addr) (c : Nat) (B : Option Addr) (d : Nat) (x : RunS) (w : World) (hx : ActAt w P g A c B d x) (hl : x.l.length ≤ 1000) :
    Calls Try.prog 123 #[.pointer (some ⟨g, 0, none⟩)] w (ActOut P g (decR x) (.bool (bestOf x.l x.l).isSome) w) := by
  have HX := Lib.hid hx
  have hc := hx.cells
  have hlt := hx.lt
  have HR1 := Lib.hid hx.rows.rl
  have hcm := HR1.out.2.2.2.1
  unfold maxLen at hcm
  clear hx
  go_enter Try.func123, Try.ntmps123
  go_wp2_with fail
  go_loopw [4, 14] (fun f i wr => ∃ (k : Nat) (b : Option NMsgD), k ≤ x.l.length ∧ i = .int .i64 k ∧ f = .bool b.isSome ∧ b = (x.l.take k).foldl (bestStep x.l) none ∧ Below w.heap.size w wr ∧ Blk wr w.heap.size 49 #[.int .i64 (bestC b).k, .int .i64 (bestC b).r, .int .i64 (bestC b).v, .int .i64 (bestC b).p, .int .i64 (bestC b).f]) (fun _ i _ => x.l.length - (intOf i).toNat)
  case atStart => exact ⟨0, none, by omega, rfl, rfl, rfl, (Below.refl _ _).alloc (Nat.le_refl _) _, heap_alloc_new w _⟩
  case round =>
    obtain ⟨k, bst, hk, rfl, rfl, hbst, hb, hz0⟩ := hrel
    have HBST := Lib.hid hbst
    have HW0 := Lib.hid hb
    have HZ0 := Lib.hid hz0
    have hzlt := hz0.lt
    have hz0s : w.heap.size ≤ wr.heap.size := hb.size
    clear hb hz0 hbst
    by_cases hkn : k < x.l.length
    · obtain ⟨b, off, p, rfl, hb1, hp, c0, c1, c2, c3, c4⟩ := msg_cells (HR1.out.below HW0.out (Nat.le_refl _)) hkn
      have HN := Lib.hid (best_next (all := x.l) hp)
      clear hp
      go_upto_region 5 with fail
      obtain ⟨w1, hw1⟩ : ∃ q, q = wr.alloc (.cells #[.int .i64 p.k, .int .i64 p.r, .int .i64 p.v, .int .i64 p.p, .int .i64 p.f] 49) := ⟨_, rfl⟩
      rw [← hw1]
      have HM : Hid (Blk w1 wr.heap.size 49 #[.int .i64 p.k, .int .i64 p.r, .int .i64 p.v, .int .i64 p.p, .int .i64 p.f]) := by show Blk _ _ _ _; rw [hw1]; exact heap_alloc_new wr _
      have HW : Hid (Below w.heap.size w w1) := by show Below _ _ _; rw [hw1]; exact HW0.out.alloc hz0s _
      have HZ : Hid (Blk w1 w.heap.size 49 #[.int .i64 (bestC bst).k, .int .i64 (bestC bst).r, .int .i64 (bestC bst).v, .int .i64 (bestC bst).p, .int .i64 (bestC bst).f]) := by show Blk _ _ _ _; rw [hw1]; exact HZ0.out.alloc _
      have hs1 : wr.heap.size < w1.heap.size := HM.out.lt
      clear hw1 c0 c1 c2 c3 c4
      have tm := HM.out.cell
      have tc : ∀ i, w1.cell? ⟨g, i, none⟩ = _ := fun i => (HW.out.cell (p := ⟨g, i, none⟩) hlt).trans (hc i)
      have hg1 : g < w1.heap.size := by omega
      cases g1 : (p.k == 1)
      · have HE : Hid (bestStep x.l bst p = bst) := by show _ = _; unfold bestStep goodB; rw [g1]; rfl
        have g1' : (p.k != 1) = true := by unfold bne; rw [g1]; rfl
        refine wp_region_below (by kernel_rfl) (by kernel_rfl) ?_
        repeat (first | go_big_quiet_skip | (go_big_quiet_want; go_big_quiet_op; first | go_big_quiet_on | (apply Exists.intro; refine ⟨fun w1 hC => ?_, ?_⟩; (focus (first | rfl | fail | (simp [(bcell hC).1, hs1, tm]; done) | (simp [(bcell hC).1, hs1, tm]; rfl))); go_big_quiet_on)))
        refine wpQuiet_nil ?_
        intro w2 hb2
        obtain ⟨hc2, hf2, hz2⟩ := bcell hb2
        go_wp2
        go_roundw
        case rel => exact ⟨k + 1, bst, by omega, by go_num, rfl, by rw [HN.out, ← HBST.out, HE.out], HW.out.trans (hb2.mono (by omega)), HZ.out.below hb2 (by omega)⟩
        case measure => simp [intOf]; omega
      have g1' : (p.k != 1) = false := by unfold bne; rw [g1]; rfl
      cases g2 : decide (countN x.l 3 p.r p.v < 3)
      rotate_left
      · have HE : Hid (bestStep x.l bst p = bst) := by
          show _ = _
          rw [decide_eq_true_eq] at g2
          have h3 : decide (3 ≤ countN x.l 3 p.r p.v) = false := decide_eq_false (by omega)
          unfold bestStep goodB; rw [h3, Bool.and_false]; rfl
        refine wp_region_below (by kernel_rfl) (by kernel_rfl) ?_
        repeat (first | go_big_quiet_skip | (go_big_quiet_want; go_big_quiet_op; first | go_big_quiet_on | (apply Exists.intro; refine ⟨fun w1 hC => ?_, ?_⟩; (focus (first | rfl | (go_at_call 63; exact quiet_below hC (count_any g _ x.l.length c x.l 3 p.r p.v _ (by exact (HR1.out.below (HW.out.trans (hC.mono (by omega))) (Nat.le_refl _)).more (by have := hC.size; omega)) (by omega) (by exact ((bcell hC).1 _ _ hg1).trans (tc 9)) (by have := hC.size; omega))) | (simp [(bcell hC).1, hs1, tm]; done) | (simp [(bcell hC).1, hs1, tm]; rfl))); go_big_quiet_on)))
        refine wpQuiet_nil ?_
        intro w2 hb2
        obtain ⟨hc2, hf2, hz2⟩ := bcell hb2
        go_wp2
        go_roundw
        case rel => exact ⟨k + 1, bst, by omega, by go_num, rfl, by rw [HN.out, ← HBST.out, HE.out], HW.out.trans (hb2.mono (by omega)), HZ.out.below hb2 (by omega)⟩
        case measure => simp [intOf]; omega
      have HG : Hid (goodB x.l p = true) := by
        show _ = _
        rw [decide_eq_false_iff_not] at g2
        have h3 : decide (3 ≤ countN x.l 3 p.r p.v) = true := decide_eq_true (by omega)
        unfold goodB; rw [g1, h3]; rfl
      refine wp_region_below (by kernel_rfl) (by kernel_rfl) ?_
      repeat (first | go_big_quiet_skip | (go_big_quiet_want; go_big_quiet_op; first | go_big_quiet_on | (apply Exists.intro; refine ⟨fun w1 hC => ?_, ?_⟩; (focus (first | rfl | (go_at_call 63; exact quiet_below hC (count_any g _ x.l.length c x.l 3 p.r p.v _ (by exact (HR1.out.below (HW.out.trans (hC.mono (by omega))) (Nat.le_refl _)).more (by have := hC.size; omega)) (by omega) (by exact ((bcell hC).1 _ _ hg1).trans (tc 9)) (by have := hC.size; omega))) | (simp [(bcell hC).1, hs1, tm]; done) | (simp [(bcell hC).1, hs1, tm]; rfl))); go_big_quiet_on)))
      refine wpQuiet_nil ?_
      intro w2 hb2
      obtain ⟨hc2, hf2, hz2⟩ := bcell hb2
      have hlz : w.heap.size < w1.heap.size := HZ.out.lt
      have tm2 : ∀ o, w2.cell? ⟨wr.heap.size, o, none⟩ = _ := fun o => (hc2 _ _ hs1).trans (tm o)
      have HZ2 := Lib.hid (HZ.out.below hb2 hlz)
      have tz2 := HZ2.out.cell
      have tf2 := HZ2.out.frozen
      have hw0 : w.heap.size ≤ w1.heap.size := by omega
      have hne : w.heap.size ≠ wr.heap.size := by omega
      have hlt2 : w.heap.size < w2.heap.size := HZ2.out.lt
      have HB2 : Hid (Below w.heap.size w w2) := HW.out.trans (hb2.mono hw0)
      clear hc2 hf2 hb2 tm tc
      have hset : ∀ e : NMsgD, Blk (((((w2.setCell ⟨w.heap.size, 0, none⟩ (.int .i64 e.k)).setCell ⟨w.heap.size, 1, none⟩ (.int .i64 e.r)).setCell ⟨w.heap.size, 2, none⟩ (.int .i64 e.v)).setCell ⟨w.heap.size, 3, none⟩ (.int .i64 e.p)).setCell ⟨w.heap.size, 4, none⟩ (.int .i64 e.f)) w.heap.size 49 #[.int .i64 e.k, .int .i64 e.r, .int .i64 e.v, .int .i64 e.p, .int .i64 e.f] := fun e => by
        have h := ((((HZ2.out.set_ 0 (.int .i64 e.k)).set_ 1 (.int .i64 e.r)).set_ 2 (.int .i64 e.v)).set_ 3 (.int .i64 e.p)).set_ 4 (.int .i64 e.f)
        simp only [List.setIfInBounds_toArray, List.set_cons_zero, List.set_cons_succ] at h
        exact h
      have HS := Lib.hid hset
      clear hset
      cases bst with
      | none =>
        have HE : Hid (bestStep x.l none p = some p) := by show _ = _; unfold bestStep; rw [HG.out]; rfl
        go_wp2
        go_roundw
        case rel =>
          refine ⟨k + 1, some p, by omega, by go_num, rfl, by rw [HN.out, ← HBST.out, HE.out], ?_, HS.out p⟩
          repeat with_reducible refine Below.setCell ?_ (by with_reducible exact Nat.le_refl _) _
          with_reducible exact HB2.out
        case measure => simp [intOf]; omega
      | some q =>
        simp only [bestC, Option.getD_some] at tz2
        cases hbet : betterB p q
        · have HE : Hid (bestStep x.l (some q) p = some q) := by show _ = _; unfold bestStep; rw [HG.out]; simp [hbet]
          have HB := Lib.hid hbet
          clear hbet
          have h1 : decide (p.r < q.r) = false := by have := HB.out; unfold betterB at this; cases h : decide (p.r < q.r) <;> simp_all
          cases h2 : (p.r == q.r)
          · go_wp2
            go_roundw
            case rel => exact ⟨k + 1, some q, by omega, by go_num, rfl, by rw [HN.out, ← HBST.out, HE.out], HB2.out, HZ2.out⟩
            case measure => simp [intOf]; omega
          · have h3 : decide (p.v < q.v) = false := by have := HB.out; unfold betterB at this; cases h : decide (p.v < q.v) <;> simp_all
            go_wp2
            go_roundw
            case rel => exact ⟨k + 1, some q, by omega, by go_num, rfl, by rw [HN.out, ← HBST.out, HE.out], HB2.out, HZ2.out⟩
            case measure => simp [intOf]; omega
        · have HE : Hid (bestStep x.l (some q) p = some p) := by show _ = _; unfold bestStep; rw [HG.out]; simp [hbet]
          have HB := Lib.hid hbet
          clear hbet
          cases h1 : decide (p.r < q.r)
          · have h23 : (p.r == q.r) = true ∧ decide (p.v < q.v) = true := by have := HB.out; unfold betterB at this; rw [h1, Bool.false_or, Bool.and_eq_true] at this; exact this
            obtain ⟨h2, h3⟩ := h23
            go_wp2
            go_roundw
            case rel =>
              refine ⟨k + 1, some p, by omega, by go_num, rfl, by rw [HN.out, ← HBST.out, HE.out], ?_, HS.out p⟩
              repeat with_reducible refine Below.setCell ?_ (by with_reducible exact Nat.le_refl _) _
              with_reducible exact HB2.out
            case measure => simp [intOf]; omega
          · go_wp2
            go_roundw
            case rel =>
              refine ⟨k + 1, some p, by omega, by go_num, rfl, by rw [HN.out, ← HBST.out, HE.out], ?_, HS.out p⟩
              repeat with_reducible refine Below.setCell ?_ (by with_reducible exact Nat.le_refl _) _
              with_reducible exact HB2.out
            case measure => simp [intOf]; omega
    · obtain rfl : k = x.l.length := by omega
      have HBB : Hid (bestOf x.l x.l = bst) := by show _ = _; unfold bestOf; have := HBST.out; rw [List.take_length] at this; exact this.symm
      have HXr := Lib.hid (HX.out.below HW0.out)
      have hcr := HXr.out.cells
      have hfr := HXr.out.free
      have hz := HZ0.out.cell
      cases bst with
      | none =>
        go_wp2
        go_ret
        exact ⟨A, c, B, d, by rw [HBB.out]; rfl, by unfold decR; rw [HBB.out]; exact HXr.out, HX.out.keep HW0.out⟩
      | some q =>
        simp only [bestC, Option.getD_some] at hz
        go_wp2
        go_ret
        refine ⟨A, c, B, d, by rw [HBB.out]; rfl, ?_, (HX.out.keep HW0.out).trans (HXr.out.puts 8 _)⟩
        unfold decR
        rw [HBB.out]
        exact HXr.out.put 8 _ _ rfl
end Go.Proofs.Ytjgaelnonacdkaa
namespace Go.Proofs.Ytjgaelnonacdkaa
open Go.RowKit

def skipR (x : RunS) : RunS := match skipTo x.l x.s.round with | some r => startR x r | none => x
theorem skip_hit {l : List NMsgD} {x0 r : Int} (h0 : x0 < r) (h1 : 0 ≤ r) (h2 : r ≤ 11) (ht : twoAt l r = true) (h : ∀ q, r < q → q ≤ 11 → twoAt l q = false) : skipTo l x0 = some r := by
  have e : ∀ q : Int, r < q → q ≤ 11 → (decide (x0 < q) && twoAt l q) = false := fun q a b => by rw [h q a b, Bool.and_false]
  have e0 : (decide (x0 < r) && twoAt l r) = true := by rw [ht, decide_eq_true h0]; rfl
  rcases (by omega : r = 11 ∨ r = 10 ∨ r = 9 ∨ r = 8 ∨ r = 7 ∨ r = 6 ∨ r = 5 ∨ r = 4 ∨ r = 3 ∨ r = 2 ∨ r = 1 ∨ r = 0) with rfl | rfl | rfl | rfl | rfl | rfl | rfl | rfl | rfl | rfl | rfl | rfl
  all_goals
    unfold skipTo
    simp (disch := decide) only [List.find?_cons, e0, e]
theorem skip_none {l : List NMsgD} {x0 : Int} (h : ∀ q, x0 < q → q ≤ 11 → twoAt l q = false) : skipTo l x0 = none := by
  unfold skipTo
  rw [List.find?_eq_none]
  intro q hq hc
  simp only [List.mem_cons, List.not_mem_nil, or_false] at hq
  simp only [Bool.and_eq_true, decide_eq_true_eq] at hc
  rw [h q hc.1 (by omega)] at hc
  exact absurd hc.2 (by decide)
theorem fromsAt_snoc (l : List NMsgD) (r : Int) (m : NMsgD) : fromsAt (l ++ [m]) r = rStep r (fromsAt l r) m := by
  unfold fromsAt; rw [List.foldl_append]; rfl
theorem fromsAt_len (l : List NMsgD) (r : Int) : (fromsAt l r).length ≤ l.length := by
  have : ∀ (l : List NMsgD) (fs : List Int), (l.foldl (rStep r) fs).length ≤ fs.length + l.length := by
    intro l
    induction l with
    | nil => intro fs; simp
    | cons m l ih =>
      intro fs
      simp only [List.foldl_cons, List.length_cons]
      have h1 := ih (rStep r fs m)
      have h2 : (rStep r fs m).length ≤ fs.length + 1 := by unfold rStep; split <;> simp
      omega
  unfold fromsAt; simpa using this l []
theorem rstep_no {r : Int} {fs : List Int} {m : NMsgD} (h : (m.r == r && !(hasI fs m.f)) = false) : rStep r fs m = fs := by unfold rStep; rw [h]; rfl
theorem rstep_yes {r : Int} {fs : List Int} {m : NMsgD} (h : (m.r == r && !(hasI fs m.f)) = true) : rStep r fs m = fs ++ [m.f] := by unfold rStep; rw [h]; rfl

set_option maxRecDepth 100000 in
set_option maxHeartbeats 4000000 in
theorem skip_any (P : Nat → Prop) (g : Nat) (A : Option Addr) (c : Nat) (B : Option Addr) (d : Nat) (x : RunS) (w : World) (hx : ActAt w P g A c B d x) (hl : x.l.length ≤ 1000) (ho : x.o.length ≤ 1000)
    (hr0 : -1 ≤ x.s.round) (hr1 : x.s.round ≤ 11) (hme : 1 ≤ x.s.me ∧ x.s.me ≤ 4) :
    Calls Try.prog 124 #[.pointer (some ⟨g, 0, none⟩)] w (ActOut P g (skipR x) (.bool (skipTo x.l x.s.round).isSome) w) := by
  have HX := Lib.hid hx
  have hc := hx.cells
  have hlt := hx.lt
  have HR1 := Lib.hid hx.rows.rl
  have hcm := HR1.out.2.2.2.1
  unfold maxLen at hcm
  obtain ⟨i0, hi, hz0, hz1, hz2⟩ := info_parts infoInt
  clear hx
  go_enter Try.func124, Try.ntmps124
  go_wp2_with fail
  go_loopw [3] (fun t wr => ∃ r : Int, t = .int .i64 r ∧ x.s.round ≤ r ∧ r ≤ 11 ∧ Below w.heap.size w wr ∧ ∀ q, r < q → q ≤ 11 → twoAt x.l q = false) (fun t _ => (intOf t + 1).toNat)
  case atStart => exact ⟨11, rfl, hr1, Int.le_refl _, Below.refl _ _, fun q a b => by omega⟩
  case round =>
    obtain ⟨r, rfl, hr2, hr3, hb, hq⟩ := hrel
    have HQ := Lib.hid hq
    have HW := Lib.hid hb
    have hzs := hb.size
    have hcr : ∀ o, wr.cell? ⟨g, o, none⟩ = _ := fun o => (hb.cell (p := ⟨g, o, none⟩) hlt).trans (hc o)
    clear hq hb
    by_cases hlast : x.s.round < r
    · have hltr : g < wr.heap.size := by omega
      go_wp2_with fail
      obtain ⟨wo, rfl⟩ : ∃ wo : World, wo = wr := ⟨_, rfl⟩
      go_loopw [4, 23] (fun o i wi => ∃ j : Nat, j ≤ x.l.length ∧ i = .int .i64 j ∧ wi.ownsRow wo.heap.size 3 1 o (fromsAt (x.l.take j) r).length ((fromsAt (x.l.take j) r).flatMap intC) ∧ Below wo.heap.size wo wi) (fun _ i _ => x.l.length - (intOf i).toNat)
      case atStart => exact ⟨0, by omega, rfl, World.ownsRow_lit wo #[] 0 (Nat.le_refl _) (by decide) rfl, (by repeat (first | exact Below.refl _ _ | assumption | refine Below.drew ?_ | refine belN ?_ _ | refine Below.alloc ?_ (by first | exact Nat.le_refl _ | (simp; done) | (simp; omega) | omega) _ | refine Below.setCell ?_ (by first | exact Nat.le_refl _ | (simp; done) | (simp; omega) | omega) _ | refine Below.trans ?_ (Below.mono (by assumption) (by first | exact Nat.le_refl _ | (simp; done) | (simp; omega) | omega))))⟩
      case round =>
        obtain ⟨j, hj, rfl, hown, hb⟩ := hrel
        have HO := Lib.hid hown; clear hown
        have hz := hb.size
        have HF := Lib.hid (fromsAt_len (x.l.take j) r)
        have HWr := Lib.hid (HW.out.trans (hb.mono hzs))
        by_cases hkn : j < x.l.length
        · obtain ⟨b, off, p, rfl, hb1, hp, c0, c1, c2, c3, c4⟩ := msg_cells (HR1.out.below HWr.out (Nat.le_refl _)) hkn
          have HT := Lib.hid (take_next hp)
          have HS := Lib.hid (fromsAt_snoc (x.l.take j) r p)
          have hle : (fromsAt (x.l.take j) r).length ≤ 1048576 := by have := HF.out; rw [List.length_take] at this; omega
          clear hp
          generalize hfs : fromsAt (x.l.take j) r = fs at *
          clear hfs
          obtain ⟨A1, cc1, rfl, hr⟩ := Rd.of_own HO.out
          have HR : Hid (RdL intC 1 wr wr.heap.size A1 fs.length cc1 fs) := ⟨rfl, hr⟩
          clear hr
          cases g2 : (p.r == r)
          · have HG := Lib.hid (rstep_no (r := r) (fs := fs) (m := p) (by rw [g2]; rfl))
            go_wp2
            go_roundw
            case rel => exact ⟨j + 1, by omega, by go_num, by rw [HT.out, HS.out, HG.out]; exact HO.out.alloc _, hb.alloc hz _⟩
            case measure => simp [intOf]; omega
          cases g4 : hasI fs p.f
          · have HG := Lib.hid (rstep_yes (r := r) (fs := fs) (m := p) (by rw [g2, g4]; rfl))
            go_wp2_with (first | (go_at_call 92; (refine (ContainsInt_any _ _ _ fs p.f _ (by exact (HR.out.alloc (Nat.le_refl _) _).more (by simp))).mono ?_); rintro e w1 ⟨rfl, hb2⟩; obtain ⟨hc9, hf, hzz⟩ := bcell hb2; have hy : wr.heap.size < w1.heap.size := (by simp at hzz; omega); have HOW := Lib.hid (own_keep (HO.out.alloc _) hb2 (Nat.le_refl _))) | (at_builtin; refine wpList_append_own _ rfl _ _ 85 rfl wo.heap.size 3 i0 (.int .i64 0) 1 8 Try.underlying85 hi hz0 hz1 hz2 rfl (by decide) _ _ _ rfl (HOW.out.alloc _) ⟨_, 0, none⟩ 1 1 [.int .i64 p.f] rfl rfl (one_new _ _ _) (one_cell _ rfl) (by unfold maxLen; omega) (by omega) (by simp; omega) ?_))
            intro v' w2 hown' hgrow _
            have hb3 : Below wo.heap.size wo w2 := (((hb.alloc hz _).trans (hb2.mono (by simp; omega))).alloc (by omega) _).grown hgrow (by simp; omega) (fun g hg => (HOW.out.lt g hg).1)
            have HB3 := Lib.hid hb3; have HO3 := Lib.hid hown'
            clear hown' hgrow hb3
            go_wp2
            go_roundw
            case rel => exact ⟨j + 1, by omega, by go_num, by rw [HT.out, HS.out, HG.out]; simpa [intC] using HO3.out, HB3.out⟩
            case measure => simp [intOf]; omega
          · have HG := Lib.hid (rstep_no (r := r) (fs := fs) (m := p) (by rw [g2, g4]; rfl))
            go_wp2_with (go_at_call 92; (refine (ContainsInt_any _ _ _ fs p.f _ (by exact (HR.out.alloc (Nat.le_refl _) _).more (by simp))).mono ?_); rintro e w1 ⟨rfl, hb2⟩; obtain ⟨hc9, hf, hzz⟩ := bcell hb2; have hy : wr.heap.size < w1.heap.size := (by simp at hzz; omega); have HOW := Lib.hid (own_keep (HO.out.alloc _) hb2 (Nat.le_refl _)))
            go_roundw
            case rel => exact ⟨j + 1, by omega, by go_num, by rw [HT.out, HS.out, HG.out]; exact own_keep (HO.out.alloc _) hb2 (Nat.le_refl _), (hb.alloc hz _).trans (hb2.mono (by simp; omega))⟩
            case measure => simp [intOf]; omega
        · obtain rfl : j = x.l.length := by omega
          have hle : (fromsAt x.l r).length ≤ 1048576 := by have := fromsAt_len x.l r; omega
          rw [List.take_length] at HO
          clear HF
          have HXr := Lib.hid (HX.out.below HWr.out)
          have HK := Lib.hid (HX.out.keep HWr.out)
          obtain ⟨A1, cc1, rfl, hr⟩ := Rd.of_own HO.out
          clear hr
          cases ht : twoAt x.l r
          · have h2 : ¬ 2 ≤ (fromsAt x.l r).length := by unfold twoAt at ht; rw [decide_eq_false_iff_not] at ht; exact ht
            have h2b : (fromsAt x.l r).length < 2 := by omega
            have hq' : Hid (∀ q, r - 1 < q → q ≤ 11 → twoAt x.l q = false) := fun q a b => by
              rcases (by omega : q = r ∨ r < q) with rfl | h
              · exact ht
              · exact HQ.out q h b
            clear ht
            go_wp2_with fail
            go_roundw
            case rel => exact ⟨r - 1, by go_num, by omega, by omega, HWr.out, hq'.out⟩
            case measure => simp [intOf]; omega
          · have h2 : 2 ≤ (fromsAt x.l r).length := by unfold twoAt at ht; rw [decide_eq_true_eq] at ht; exact ht
            have HE : Hid (skipTo x.l x.s.round = some r) := skip_hit hlast (by omega) hr3 ht HQ.out
            clear ht
            go_wp2_with fail
            refine (start_any P g A c B d x r _ HXr.out hl ho (by omega) (by omega) hme).mono ?_
            rintro e w2 ⟨A2, c2, B2, d2, rfl, ha, hk2⟩
            go_wp2_with fail
            go_ret
            exact ⟨A2, c2, B2, d2, by rw [HE.out]; rfl, by unfold skipR; rw [HE.out]; exact ha, HK.out.trans hk2⟩
    · have HE : Hid (skipTo x.l x.s.round = none) := skip_none fun q a b => HQ.out q (by omega) b
      have HXr := Lib.hid (HX.out.below HW.out)
      go_wp2
      go_ret
      exact ⟨A, c, B, d, by rw [HE.out]; rfl, by unfold skipR; rw [HE.out]; exact HXr.out, HX.out.keep HW.out⟩
end Go.Proofs.Ytjgaelnonacdkaa
namespace Go.Proofs.Ytjgaelnonacdkaa
open Go.RowKit

def bestS (b : Option NMsgD) : NMsgD := b.getD ⟨0, 12, 0, 0, 0⟩
def worseS (e p : NMsgD) : Bool := decide (e.r < p.r) || (p.r == e.r && decide (e.v ≤ p.v))
theorem worse_some (q p : NMsgD) : worseS q p = !(betterB p q) := by
  unfold worseS betterB
  rcases Int.lt_trichotomy p.r q.r with h | h | h
  · rw [decide_eq_false (by omega : ¬ q.r < p.r), decide_eq_true h, beq_eq_false_iff_ne.2 (by omega : p.r ≠ q.r)]; rfl
  · rw [h, decide_eq_false (by omega : ¬ q.r < q.r), beq_self_eq_true, Bool.false_or, Bool.false_or, Bool.true_and, Bool.true_and]
    by_cases h2 : p.v < q.v
    · rw [decide_eq_true h2, decide_eq_false (by omega)]; rfl
    · rw [decide_eq_false h2, decide_eq_true (by omega)]; rfl
  · rw [decide_eq_true h, decide_eq_false (by omega : ¬ p.r < q.r), beq_eq_false_iff_ne.2 (by omega : p.r ≠ q.r)]; rfl
theorem step_worse {all : List NMsgD} {b : Option NMsgD} {p : NMsgD} (hp : p.r ≤ 11) (h : worseS (bestS b) p = true) : bestStep all b p = b := by
  cases b with
  | none =>
    exfalso
    unfold worseS bestS at h
    simp only [Option.getD_none] at h
    rw [decide_eq_false (by omega : ¬ (12 : Int) < p.r), beq_eq_false_iff_ne.2 (by omega : p.r ≠ 12)] at h
    cases h
  | some q =>
    have h : worseS q p = true := h
    rw [worse_some, Bool.not_eq_true'] at h
    unfold bestStep
    split
    · simp [h]
    · rfl
theorem step_better {all : List NMsgD} {b : Option NMsgD} {p : NMsgD} (h : worseS (bestS b) p = false) (hg : goodB all p = true) : bestStep all b p = some p := by
  unfold bestStep
  rw [if_pos hg]
  cases b with
  | none => rfl
  | some q =>
    have h : worseS q p = false := h
    rw [worse_some, Bool.not_eq_false'] at h
    simp [h]
theorem step_bad {all : List NMsgD} {b : Option NMsgD} {p : NMsgD} (hg : goodB all p = false) : bestStep all b p = b := by
  unfold bestStep; rw [hg]; rfl

set_option maxRecDepth 100000 in
set_option maxHeartbeats 8000000 in
theorem l16Decide_any (P : Nat → Prop) (A : Option Addr) (c : Nat) (B : Option Addr) (d : Nat) (x : RunS) (w : World) (hx : Rows w P A c B d x) (hl : x.l.length ≤ 1000) (hok : msgsOk x.l = true) :
    Calls Try.prog 135 #[runV x A c B d] w (RunOutB P A c B d (decR x) (bestOf x.l x.l).isSome w) := by
  have HR := Lib.hid hx
  have HOK := Lib.hid hok
  have hcm := hx.rl.2.2.2.1
  unfold maxLen at hcm
  clear hx hok
  unfold runV
  go_enter Try.func135, Try.ntmps135
  go_upto_region 1 with fail
  obtain ⟨w2, hw2⟩ : ∃ q, q = (w.alloc (.cells #[.int .i64 x.s.me, .int .i64 x.s.round, .int .i64 x.s.step, .int .i64 x.s.lv, .int .i64 x.s.lr, .int .i64 x.s.vv, .int .i64 x.s.vr, .int .i64 x.s.polka, .int .i64 x.s.dec, .slice A x.l.length c, .slice B x.o.length d] 120)).alloc (.cells #[.int .i64 0, .int .i64 0, .int .i64 0, .int .i64 0, .int .i64 0, .int .i64 0, .int .i64 0, .int .i64 0, .int .i64 0, .slice none 0 0, .slice none 0 0] 120) := ⟨_, rfl⟩
  rw [← hw2]
  have HX2 : Hid (RunAt w2 (fun q => P q ∨ q = w.heap.size + 1) w.heap.size A c B d x) := by show RunAt _ _ _ _ _ _ _ _; rw [hw2]; exact (run_open HR.out).1
  have HZ2 : Hid (Blk w2 (w.heap.size + 1) 120 #[.int .i64 0, .int .i64 0, .int .i64 0, .int .i64 0, .int .i64 0, .int .i64 0, .int .i64 0, .int .i64 0, .int .i64 0, .slice none 0 0, .slice none 0 0]) := by show Blk _ _ _ _; rw [hw2]; exact (run_open HR.out).2.1
  have HK2 : Hid (Keep P w w2) := by show Keep _ _ _; rw [hw2]; exact (run_open HR.out).2.2
  have hnb : ¬ P w.heap.size := fun h => by have := HR.out.lt _ h; omega
  have hnz : ¬ P (w.heap.size + 1) := fun h => by have := HR.out.lt _ h; omega
  have hne : w.heap.size + 1 ≠ w.heap.size := by omega
  clear hw2
  have tb := HX2.out.cells
  have tbf := HX2.out.free
  have tz := HZ2.out.cell
  have tzf := HZ2.out.frozen
  have hltb := HX2.out.lt
  have hltz := HZ2.out.lt
  clear tz tzf
  go_wp2_with fail
  go_loopw [5] (fun i wr => ∃ (k : Nat) (b : Option NMsgD), k ≤ x.l.length ∧ i = .int .i64 k ∧ b = (x.l.take k).foldl (bestStep x.l) none ∧ RunAt wr (fun q => (P q ∨ q = w.heap.size + 1) ∨ q = w2.heap.size) w.heap.size A c B d x ∧
    Blk wr (w.heap.size + 1) 120 #[.int .i64 0, .int .i64 0, .int .i64 0, .int .i64 0, .int .i64 0, .int .i64 0, .int .i64 0, .int .i64 0, .int .i64 0, .slice none 0 0, .slice none 0 0] ∧ Blk wr w2.heap.size 49 #[.int .i64 (bestS b).k, .int .i64 (bestS b).r, .int .i64 (bestS b).v, .int .i64 (bestS b).p, .int .i64 (bestS b).f] ∧ Keep P w wr) (fun i _ => x.l.length - (intOf i).toNat)
  case atStart => exact ⟨0, none, by omega, rfl, rfl, HX2.out.new _, HZ2.out.alloc _, heap_alloc_new w2 _, HK2.out.alloc (fun q hq => HX2.out.ltP q (.inl hq)) _⟩
  case round =>
    obtain ⟨k, bst, hk, rfl, hbst, hX, hZ, hE, hK⟩ := hrel
    have HBST := Lib.hid hbst
    have HX := Lib.hid hX
    have HZ := Lib.hid hZ
    have HE0 := Lib.hid hE
    have HK := Lib.hid hK
    clear hX hZ hE hK hbst tb tbf
    have tb := HX.out.cells
    have hltb := HX.out.lt
    by_cases hkn : k < x.l.length
    · obtain ⟨b, off, p, rfl, hb1, hp, c0, c1, c2, c3, c4⟩ := msg_cells HX.out.rows.rl hkn
      have HN := Lib.hid (best_next (all := x.l) hp)
      have hpo := (okMsg_iff p).1 (msgsOk_mem HOK.out (List.mem_of_getElem? hp))
      have hpr : p.r ≤ 11 := hpo.2.1.2
      clear hp hpo
      go_upto_region 6 with fail
      obtain ⟨w3, hw3⟩ : ∃ q, q = wr.alloc (.cells #[.int .i64 p.k, .int .i64 p.r, .int .i64 p.v, .int .i64 p.p, .int .i64 p.f] 49) := ⟨_, rfl⟩
      rw [← hw3]
      have HM3 : Hid (Blk w3 wr.heap.size 49 #[.int .i64 p.k, .int .i64 p.r, .int .i64 p.v, .int .i64 p.p, .int .i64 p.f]) := by show Blk _ _ _ _; rw [hw3]; exact heap_alloc_new wr _
      have HX3 : Hid (RunAt w3 (fun q => (P q ∨ q = w.heap.size + 1) ∨ q = w2.heap.size) w.heap.size (some ⟨b, off, none⟩) c B d x) := by show RunAt _ _ _ _ _ _ _ _; rw [hw3]; exact HX.out.alloc _
      have HZ3 : Hid (Blk w3 (w.heap.size + 1) 120 #[.int .i64 0, .int .i64 0, .int .i64 0, .int .i64 0, .int .i64 0, .int .i64 0, .int .i64 0, .int .i64 0, .int .i64 0, .slice none 0 0, .slice none 0 0]) := by show Blk _ _ _ _; rw [hw3]; exact HZ.out.alloc _
      have HE3 : Hid (Blk w3 w2.heap.size 49 #[.int .i64 (bestS bst).k, .int .i64 (bestS bst).r, .int .i64 (bestS bst).v, .int .i64 (bestS bst).p, .int .i64 (bestS bst).f]) := by show Blk _ _ _ _; rw [hw3]; exact HE0.out.alloc _
      have HK3 : Hid (Keep P w w3) := by show Keep _ _ _; rw [hw3]; exact HK.out.alloc (fun q hq => HX.out.ltP q (.inl (.inl hq))) _
      clear hw3 c0 c1 c2 c3 c4 tb hltb
      have tb := HX3.out.cells
      have tm := HM3.out.cell
      have te := HE3.out.cell
      have hltb := HX3.out.lt
      have hltm := HM3.out.lt
      have hlte := HE3.out.lt
      have hltz := HZ3.out.lt
      have hkP : ∀ q, P q → q < w3.heap.size := fun q hq => HX3.out.ltP q (.inl (.inl hq))
      have HKP := Lib.hid hkP
      clear hkP
      have hne2 : w2.heap.size ≠ wr.heap.size := by have := HE0.out.lt; omega
      have hne3 : w.heap.size + 1 ≠ w2.heap.size := by have := HZ2.out.lt; omega
      have hne4 : ¬ P w2.heap.size := fun h => by have := HR.out.lt _ h; have := HX2.out.lt; omega
      obtain ⟨e, he⟩ : ∃ e, e = bestS bst := ⟨_, rfl⟩
      have HEE := Lib.hid he
      rw [← he] at te HE3
      clear he
      have nx : Hid (bestStep x.l bst p = bst → RunAt w3 (fun q => (P q ∨ q = w.heap.size + 1) ∨ q = w2.heap.size) w.heap.size (some ⟨b, off, none⟩) c B d x) := fun _ => HX3.out
      clear nx
      cases g1 : (p.k == 1)
      · have g1' : (p.k != 1) = true := by unfold bne; rw [g1]; rfl
        have HS : Hid (bestStep x.l bst p = bst) := step_bad (by unfold goodB; rw [g1]; rfl)
        go_wp2
        go_roundw
        case rel => exact ⟨k + 1, bst, by omega, by go_num, by rw [HN.out, ← HBST.out, HS.out], HX3.out, HZ3.out, by rw [← HEE.out]; exact HE3.out, HK3.out⟩
        case measure => simp [intOf]; omega
      have g1' : (p.k != 1) = false := by unfold bne; rw [g1]; rfl
      cases q1 : decide (e.r < p.r)
      rotate_left
      · have HS : Hid (bestStep x.l bst p = bst) := step_worse hpr (by rw [← HEE.out]; unfold worseS; rw [q1]; rfl)
        go_wp2
        go_roundw
        case rel => exact ⟨k + 1, bst, by omega, by go_num, by rw [HN.out, ← HBST.out, HS.out], HX3.out, HZ3.out, by rw [← HEE.out]; exact HE3.out, HK3.out⟩
        case measure => simp [intOf]; omega
      have split : worseS e p = false ∨ ((p.r == e.r) = true ∧ decide (e.v ≤ p.v) = true) := by
        unfold worseS; rw [q1, Bool.false_or]
        cases h1 : (p.r == e.r) <;> cases h2 : decide (e.v ≤ p.v) <;> simp
      rcases split with hw | ⟨q2, q3⟩
      rotate_left
      · have HS : Hid (bestStep x.l bst p = bst) := step_worse hpr (by rw [← HEE.out]; unfold worseS; rw [q1, q2, q3]; rfl)
        go_wp2
        go_roundw
        case rel => exact ⟨k + 1, bst, by omega, by go_num, by rw [HN.out, ← HBST.out, HS.out], HX3.out, HZ3.out, by rw [← HEE.out]; exact HE3.out, HK3.out⟩
        case measure => simp [intOf]; omega
      have HW := Lib.hid hw
      clear hw
      have hnext : Hid (∀ w4, Below w3.heap.size w3 w4 → goodB x.l p = false → RunAt w4 (fun q => (P q ∨ q = w.heap.size + 1) ∨ q = w2.heap.size) w.heap.size (some ⟨b, off, none⟩) c B d x ∧ Blk w4 (w.heap.size + 1) 120 #[.int .i64 0, .int .i64 0, .int .i64 0, .int .i64 0, .int .i64 0, .int .i64 0, .int .i64 0, .int .i64 0, .int .i64 0, .slice none 0 0, .slice none 0 0] ∧
          Blk w4 w2.heap.size 49 #[.int .i64 (bestS bst).k, .int .i64 (bestS bst).r, .int .i64 (bestS bst).v, .int .i64 (bestS bst).p, .int .i64 (bestS bst).f] ∧ Keep P w w4) := fun w4 hb _ =>
        ⟨HX3.out.below hb, HZ3.out.below hb hltz, by rw [← HEE.out]; exact HE3.out.below hb hlte, HK3.out.trans (Keep.of_below hb HKP.out)⟩
      have hset : Hid (∀ w4, Below w3.heap.size w3 w4 → goodB x.l p = true → ∀ w5, w5 = ((((w4.setCell ⟨w2.heap.size, 0, none⟩ (.int .i64 p.k)).setCell ⟨w2.heap.size, 1, none⟩ (.int .i64 p.r)).setCell ⟨w2.heap.size, 2, none⟩ (.int .i64 p.v)).setCell ⟨w2.heap.size, 3, none⟩ (.int .i64 p.p)).setCell ⟨w2.heap.size, 4, none⟩ (.int .i64 p.f) →
          RunAt w5 (fun q => (P q ∨ q = w.heap.size + 1) ∨ q = w2.heap.size) w.heap.size (some ⟨b, off, none⟩) c B d x ∧ Blk w5 (w.heap.size + 1) 120 #[.int .i64 0, .int .i64 0, .int .i64 0, .int .i64 0, .int .i64 0, .int .i64 0, .int .i64 0, .int .i64 0, .int .i64 0, .slice none 0 0, .slice none 0 0] ∧
          Blk w5 w2.heap.size 49 #[.int .i64 p.k, .int .i64 p.r, .int .i64 p.v, .int .i64 p.p, .int .i64 p.f] ∧ Keep P w w5) := fun w4 hb _ w5 h5 => by
        subst h5
        have h1 := HX3.out.below hb
        have h2 := HZ3.out.below hb hltz
        have h3 := HE3.out.below hb hlte
        have h4 := HK3.out.trans (Keep.of_below hb HKP.out)
        refine ⟨((((h1.far (.inr rfl) _).far (.inr rfl) _).far (.inr rfl) _).far (.inr rfl) _).far (.inr rfl) _, ((((h2.far hne3 _).far hne3 _).far hne3 _).far hne3 _).far hne3 _, ?_, ((((h4.setCell hne4 _).setCell hne4 _).setCell hne4 _).setCell hne4 _).setCell hne4 _⟩
        have h := ((((h3.set_ 0 (.int .i64 p.k)).set_ 1 (.int .i64 p.r)).set_ 2 (.int .i64 p.v)).set_ 3 (.int .i64 p.p)).set_ 4 (.int .i64 p.f)
        simp only [List.setIfInBounds_toArray, List.set_cons_zero, List.set_cons_succ] at h
        exact h
      have H4 := Lib.hid (froms4_of HOK.out)
      cases g2 : decide (countN x.l 3 p.r p.v < 3)
      · have HG : Hid (goodB x.l p = true) := by
          show _ = _
          rw [decide_eq_false_iff_not] at g2
          have h3 : decide (3 ≤ countN x.l 3 p.r p.v) = true := decide_eq_true (by omega)
          unfold goodB; rw [g1, h3]; rfl
        have HS : Hid (bestStep x.l bst p = some p) := step_better (by rw [← HEE.out]; exact HW.out) HG.out
        have hq : (p.r == e.r) = false ∨ ((p.r == e.r) = true ∧ decide (e.v ≤ p.v) = false) := by
          have h := HW.out
          unfold worseS at h
          rw [q1, Bool.false_or] at h
          cases h1 : (p.r == e.r)
          · exact .inl rfl
          · rw [h1, Bool.true_and] at h; exact .inr ⟨rfl, h⟩
        rcases hq with q2 | ⟨q2, q3⟩
        all_goals
          go_upto_region 7 with (go_at_call 62; (refine (l16Count_any _ x.l.length c x.l 3 p.r p.v _ (by exact HX3.out.rows.rl) (by omega) H4.out).mono ?_); rintro e4 w4 ⟨rfl, hb4⟩)
          have tm4 : ∀ o, w4.cell? ⟨wr.heap.size, o, none⟩ = _ := fun o => ((bcell hb4).1 _ _ hltm).trans (tm o)
          have te4 := (HE3.out.below hb4 hlte).cell
          have tf4 := (HE3.out.below hb4 hlte).frozen
          have HB4 := Lib.hid hb4
          clear hb4 tm te tb
          go_wp2
          go_roundw
          case rel => exact ⟨k + 1, some p, by omega, by go_num, by rw [HN.out, ← HBST.out, HS.out], hset.out w4 HB4.out HG.out _ rfl⟩
          case measure => simp [intOf]; omega
      · have HG : Hid (goodB x.l p = false) := by
          show _ = _
          rw [decide_eq_true_eq] at g2
          have h3 : decide (3 ≤ countN x.l 3 p.r p.v) = false := decide_eq_false (by omega)
          unfold goodB; rw [h3, Bool.and_false]
        have HS : Hid (bestStep x.l bst p = bst) := step_bad HG.out
        have hq : (p.r == e.r) = false ∨ ((p.r == e.r) = true ∧ decide (e.v ≤ p.v) = false) := by
          have h := HW.out
          unfold worseS at h
          rw [q1, Bool.false_or] at h
          cases h1 : (p.r == e.r)
          · exact .inl rfl
          · rw [h1, Bool.true_and] at h; exact .inr ⟨rfl, h⟩
        rcases hq with q2 | ⟨q2, q3⟩
        all_goals
          go_wp2_with (go_at_call 62; (refine (l16Count_any _ x.l.length c x.l 3 p.r p.v _ (by exact HX3.out.rows.rl) (by omega) H4.out).mono ?_); rintro e4 w4 ⟨rfl, hb4⟩)
          go_roundw
          case rel => exact ⟨k + 1, bst, by omega, by go_num, by rw [HN.out, ← HBST.out, HS.out], hnext.out w4 hb4 HG.out⟩
          case measure => simp [intOf]; omega
    · obtain rfl : k = x.l.length := by omega
      have HBB : Hid (bestOf x.l x.l = bst) := by show _ = _; unfold bestOf; have := HBST.out; rw [List.take_length] at this; exact this.symm
      have te := HE0.out.cell
      have hltb := HX.out.lt
      have tbf := HX.out.free
      have tz := HZ.out.cell
      have tzf := HZ.out.frozen
      have hltz := HZ.out.lt
      have hne' : w.heap.size ≠ w.heap.size + 1 := by omega
      cases bst with
      | none =>
        have HE : Hid (decR x = x) := by show _ = _; unfold decR; rw [HBB.out]
        have HE2 : Hid ((bestOf x.l x.l).isSome = false) := by show _ = _; simp [HBB.out]
        simp only [bestS, Option.getD_none] at te
        go_wp2_with fail
        rw [HE2.out]
        refine bodyPost_ret (v := .tuple #[runV x A c B d, .bool false]) (by unfold runV; first | (simp [results, Try.results135, go_sem, tz]; done) | (simp [results, Try.results135, go_sem, tz]; repeat' (first | rfl | constructor))) rfl ?_
        refine ⟨A, c, B, d, by rw [HE.out] <;> rfl, ?_, ?_, fun h => by first | exact ⟨rfl, rfl, rfl, rfl⟩ | cases h⟩
        · rw [HE.out]
          show Rows (fillR wr (w.heap.size + 1) A c B d x) P A c B d x
          exact (fillR_rows (HX.out.rows.mono (Q := fun q => (P q ∨ q = w.heap.size + 1) ∨ q = w.heap.size) fun q hq => hq.elim (fun h => .inl (.inl h)) .inr) (.inl (.inr rfl))).mono fun q hq => .inl (.inl hq)
        · show Keep P w (fillR wr (w.heap.size + 1) A c B d x)
          exact fillR_keep HK.out hnz
      | some q =>
        have hq := bestOf_some HBB.out
        have hqr : (q.r == 12) = false := by
          have := ((okMsg_iff q).1 (msgsOk_mem HOK.out hq.1)).2.1.2
          exact beq_eq_false_iff_ne.2 (by omega)
        have HE : Hid (decR x = ⟨withDec x.s q.v, x.l, x.o⟩) := by show _ = _; unfold decR; rw [HBB.out]
        have HE2 : Hid ((bestOf x.l x.l).isSome = true) := by show _ = _; simp [HBB.out]
        clear hq
        simp only [bestS, Option.getD_some] at te
        go_wp2_with fail
        rw [HE2.out]
        have HX6 := Lib.hid (HX.out.put 8 (.int .i64 q.v) (withDec x.s q.v) rfl)
        refine bodyPost_ret (v := .tuple #[runV ⟨withDec x.s q.v, x.l, x.o⟩ A c B d, .bool true]) (by unfold runV; first | (simp [results, Try.results135, go_sem, tz]; done) | (simp [results, Try.results135, go_sem, tz]; repeat' (first | rfl | constructor))) rfl ?_
        refine ⟨A, c, B, d, by rw [HE.out] <;> rfl, ?_, ?_, fun h => by first | exact ⟨rfl, rfl, rfl, rfl⟩ | cases h⟩
        · rw [HE.out]
          show Rows (fillR (wr.setCell ⟨w.heap.size, 8, none⟩ (.int .i64 q.v)) (w.heap.size + 1) A c B d ⟨withDec x.s q.v, x.l, x.o⟩) P A c B d ⟨withDec x.s q.v, x.l, x.o⟩
          exact (fillR_rows (HX6.out.rows.mono (Q := fun q => (P q ∨ q = w.heap.size + 1) ∨ q = w.heap.size) fun q hq => hq.elim (fun h => .inl (.inl h)) .inr) (.inl (.inr rfl))).mono fun q hq => .inl (.inl hq)
        · show Keep P w (fillR (wr.setCell ⟨w.heap.size, 8, none⟩ (.int .i64 q.v)) (w.heap.size + 1) A c B d ⟨withDec x.s q.v, x.l, x.o⟩)
          exact fillR_keep (HK.out.setCell hnb _) hnz
end Go.Proofs.Ytjgaelnonacdkaa
