/- l16Decide of the reference. -/
import Derived.WalkKit
import Derived.WalkSpells
import Derived.WalkLawsBesides
import Derived.Lib.Hide
import Derived.Test.YtjgaelnonacdkaaG26
import Derived.Test.YtjgaelnonacdkaaG20
namespace Go.Proofs.Ytjgaelnonacdkaa
open Go.RowKit

def bestS (b : Option NMsgD) : NMsgD := b.getD ⟨0, 12, 0, 0, 0⟩
def worseS (e p : NMsgD) : Bool := decide (e.r < p.r) || (p.r == e.r && decide (e.v ≤ p.v))
theorem worse_some (q p : NMsgD) : worseS q p = !(betterB p q) := by
  unfold worseS betterB
  rcases Int.lt_trichotomy p.r q.r with h | h | h
  · rw [decide_eq_false (by omega : ¬ q.r < p.r), decide_eq_true h, beq_eq_false_iff_ne.2 (by omega : p.r ≠ q.r)]; rfl
  · rw [h, decide_eq_false (by omega : ¬ q.r < q.r), beq_self_eq_true, Bool.false_or, Bool.false_or, Bool.true_and, Bool.true_and]
    by_cases h2 : p.v < q.v
    · rw [decide_eq_true h2, decide_eq_false (by omega)]; rfl
    · rw [decide_eq_false h2, decide_eq_true (by omega)]; rfl
  · rw [decide_eq_true h, decide_eq_false (by omega : ¬ p.r < q.r), beq_eq_false_iff_ne.2 (by omega : p.r ≠ q.r)]; rfl
theorem step_worse {all : List NMsgD} {b : Option NMsgD} {p : NMsgD} (hp : p.r ≤ 11) (h : worseS (bestS b) p = true) : bestStep all b p = b := by
  cases b with
  | none =>
    exfalso
    unfold worseS bestS at h
    simp only [Option.getD_none] at h
    rw [decide_eq_false (by omega : ¬ (12 : Int) < p.r), beq_eq_false_iff_ne.2 (by omega : p.r ≠ 12)] at h
    cases h
  | some q =>
    have h : worseS q p = true := h
    rw [worse_some, Bool.not_eq_true'] at h
    unfold bestStep
    split
    · simp [h]
    · rfl
theorem step_better {all : List NMsgD} {b : Option NMsgD} {p : NMsgD} (h : worseS (bestS b) p = false) (hg : goodB all p = true) : bestStep all b p = some p := by
  unfold bestStep
  rw [if_pos hg]
  cases b with
  | none => rfl
  | some q =>
    have h : worseS q p = false := h
    rw [worse_some, Bool.not_eq_false'] at h
    simp [h]
theorem step_bad {all : List NMsgD} {b : Option NMsgD} {p : NMsgD} (hg : goodB all p = false) : bestStep all b p = b := by
  unfold bestStep; rw [hg]; rfl

set_option maxRecDepth 100000 in
set_option maxHeartbeats 8000000 in
theorem l16Decide_any (P : Nat → Prop) (A : Option Addr) (c : Nat) (B : Option Addr) (d : Nat) (x : RunS) (w : World) (hx : Rows w P A c B d x) (hl : x.l.length ≤ 1000) (hok : msgsOk x.l = true) :
    Calls Try.prog 135 #[runV x A c B d] w (RunOutB P A c B d (decR x) (bestOf x.l x.l).isSome w) := by
  have HR := Lib.hid hx
  have HOK := Lib.hid hok
  have hcm := hx.rl.2.2.2.1
  unfold maxLen at hcm
  clear hx hok
  unfold runV
  go_enter Try.func135, Try.ntmps135
  go_upto_region 1 with fail
  obtain ⟨w2, hw2⟩ : ∃ q, q = (w.alloc (.cells #[.int .i64 x.s.me, .int .i64 x.s.round, .int .i64 x.s.step, .int .i64 x.s.lv, .int .i64 x.s.lr, .int .i64 x.s.vv, .int .i64 x.s.vr, .int .i64 x.s.polka, .int .i64 x.s.dec, .slice A x.l.length c, .slice B x.o.length d] 120)).alloc (.cells #[.int .i64 0, .int .i64 0, .int .i64 0, .int .i64 0, .int .i64 0, .int .i64 0, .int .i64 0, .int .i64 0, .int .i64 0, .slice none 0 0, .slice none 0 0] 120) := ⟨_, rfl⟩
  rw [← hw2]
  have HX2 : Hid (RunAt w2 (fun q => P q ∨ q = w.heap.size + 1) w.heap.size A c B d x) := by show RunAt _ _ _ _ _ _ _ _; rw [hw2]; exact (run_open HR.out).1
  have HZ2 : Hid (Blk w2 (w.heap.size + 1) 120 #[.int .i64 0, .int .i64 0, .int .i64 0, .int .i64 0, .int .i64 0, .int .i64 0, .int .i64 0, .int .i64 0, .int .i64 0, .slice none 0 0, .slice none 0 0]) := by show Blk _ _ _ _; rw [hw2]; exact (run_open HR.out).2.1
  have HK2 : Hid (Keep P w w2) := by show Keep _ _ _; rw [hw2]; exact (run_open HR.out).2.2
  have hnb : ¬ P w.heap.size := fun h => by have := HR.out.lt _ h; omega
  have hnz : ¬ P (w.heap.size + 1) := fun h => by have := HR.out.lt _ h; omega
  have hne : w.heap.size + 1 ≠ w.heap.size := by omega
  clear hw2
  have tb := HX2.out.cells
  have tbf := HX2.out.free
  have tz := HZ2.out.cell
  have tzf := HZ2.out.frozen
  have hltb := HX2.out.lt
  have hltz := HZ2.out.lt
  clear tz tzf
  go_wp2_with fail
  go_loopw [5] (fun i wr => ∃ (k : Nat) (b : Option NMsgD), k ≤ x.l.length ∧ i = .int .i64 k ∧ b = (x.l.take k).foldl (bestStep x.l) none ∧ RunAt wr (fun q => (P q ∨ q = w.heap.size + 1) ∨ q = w2.heap.size) w.heap.size A c B d x ∧
    Blk wr (w.heap.size + 1) 120 #[.int .i64 0, .int .i64 0, .int .i64 0, .int .i64 0, .int .i64 0, .int .i64 0, .int .i64 0, .int .i64 0, .int .i64 0, .slice none 0 0, .slice none 0 0] ∧ Blk wr w2.heap.size 49 #[.int .i64 (bestS b).k, .int .i64 (bestS b).r, .int .i64 (bestS b).v, .int .i64 (bestS b).p, .int .i64 (bestS b).f] ∧ Keep P w wr) (fun i _ => x.l.length - (intOf i).toNat)
  case atStart => exact ⟨0, none, by omega, rfl, rfl, HX2.out.new _, HZ2.out.alloc _, heap_alloc_new w2 _, HK2.out.alloc (fun q hq => HX2.out.ltP q (.inl hq)) _⟩
  case round =>
    obtain ⟨k, bst, hk, rfl, hbst, hX, hZ, hE, hK⟩ := hrel
    have HBST := Lib.hid hbst
    have HX := Lib.hid hX
    have HZ := Lib.hid hZ
    have HE0 := Lib.hid hE
    have HK := Lib.hid hK
    clear hX hZ hE hK hbst tb tbf
    have tb := HX.out.cells
    have hltb := HX.out.lt
    by_cases hkn : k < x.l.length
    · obtain ⟨b, off, p, rfl, hb1, hp, c0, c1, c2, c3, c4⟩ := msg_cells HX.out.rows.rl hkn
      have HN := Lib.hid (best_next (all := x.l) hp)
      have hpo := (okMsg_iff p).1 (msgsOk_mem HOK.out (List.mem_of_getElem? hp))
      have hpr : p.r ≤ 11 := hpo.2.1.2
      clear hp hpo
      go_upto_region 6 with fail
      obtain ⟨w3, hw3⟩ : ∃ q, q = wr.alloc (.cells #[.int .i64 p.k, .int .i64 p.r, .int .i64 p.v, .int .i64 p.p, .int .i64 p.f] 49) := ⟨_, rfl⟩
      rw [← hw3]
      have HM3 : Hid (Blk w3 wr.heap.size 49 #[.int .i64 p.k, .int .i64 p.r, .int .i64 p.v, .int .i64 p.p, .int .i64 p.f]) := by show Blk _ _ _ _; rw [hw3]; exact heap_alloc_new wr _
      have HX3 : Hid (RunAt w3 (fun q => (P q ∨ q = w.heap.size + 1) ∨ q = w2.heap.size) w.heap.size (some ⟨b, off, none⟩) c B d x) := by show RunAt _ _ _ _ _ _ _ _; rw [hw3]; exact HX.out.alloc _
      have HZ3 : Hid (Blk w3 (w.heap.size + 1) 120 #[.int .i64 0, .int .i64 0, .int .i64 0, .int .i64 0, .int .i64 0, .int .i64 0, .int .i64 0, .int .i64 0, .int .i64 0, .slice none 0 0, .slice none 0 0]) := by show Blk _ _ _ _; rw [hw3]; exact HZ.out.alloc _
      have HE3 : Hid (Blk w3 w2.heap.size 49 #[.int .i64 (bestS bst).k, .int .i64 (bestS bst).r, .int .i64 (bestS bst).v, .int .i64 (bestS bst).p, .int .i64 (bestS bst).f]) := by show Blk _ _ _ _; rw [hw3]; exact HE0.out.alloc _
      have HK3 : Hid (Keep P w w3) := by show Keep _ _ _; rw [hw3]; exact HK.out.alloc (fun q hq => HX.out.ltP q (.inl (.inl hq))) _
      clear hw3 c0 c1 c2 c3 c4 tb hltb
      have tb := HX3.out.cells
      have tm := HM3.out.cell
      have te := HE3.out.cell
      have hltb := HX3.out.lt
      have hltm := HM3.out.lt
      have hlte := HE3.out.lt
      have hltz := HZ3.out.lt
      have hkP : ∀ q, P q → q < w3.heap.size := fun q hq => HX3.out.ltP q (.inl (.inl hq))
      have HKP := Lib.hid hkP
      clear hkP
      have hne2 : w2.heap.size ≠ wr.heap.size := by have := HE0.out.lt; omega
      have hne3 : w.heap.size + 1 ≠ w2.heap.size := by have := HZ2.out.lt; omega
      have hne4 : ¬ P w2.heap.size := fun h => by have := HR.out.lt _ h; have := HX2.out.lt; omega
      obtain ⟨e, he⟩ : ∃ e, e = bestS bst := ⟨_, rfl⟩
      have HEE := Lib.hid he
      rw [← he] at te HE3
      clear he
      have nx : Hid (bestStep x.l bst p = bst → RunAt w3 (fun q => (P q ∨ q = w.heap.size + 1) ∨ q = w2.heap.size) w.heap.size (some ⟨b, off, none⟩) c B d x) := fun _ => HX3.out
      clear nx
      cases g1 : (p.k == 1)
      · have g1' : (p.k != 1) = true := by unfold bne; rw [g1]; rfl
        have HS : Hid (bestStep x.l bst p = bst) := step_bad (by unfold goodB; rw [g1]; rfl)
        go_wp2
        go_roundw
        case rel => exact ⟨k + 1, bst, by omega, by go_num, by rw [HN.out, ← HBST.out, HS.out], HX3.out, HZ3.out, by rw [← HEE.out]; exact HE3.out, HK3.out⟩
        case measure => simp [intOf]; omega
      have g1' : (p.k != 1) = false := by unfold bne; rw [g1]; rfl
      cases q1 : decide (e.r < p.r)
      rotate_left
      · have HS : Hid (bestStep x.l bst p = bst) := step_worse hpr (by rw [← HEE.out]; unfold worseS; rw [q1]; rfl)
        go_wp2
        go_roundw
        case rel => exact ⟨k + 1, bst, by omega, by go_num, by rw [HN.out, ← HBST.out, HS.out], HX3.out, HZ3.out, by rw [← HEE.out]; exact HE3.out, HK3.out⟩
        case measure => simp [intOf]; omega
      have split : worseS e p = false ∨ ((p.r == e.r) = true ∧ decide (e.v ≤ p.v) = true) := by
        unfold worseS; rw [q1, Bool.false_or]
        cases h1 : (p.r == e.r) <;> cases h2 : decide (e.v ≤ p.v) <;> simp
      rcases split with hw | ⟨q2, q3⟩
      rotate_left
      · have HS : Hid (bestStep x.l bst p = bst) := step_worse hpr (by rw [← HEE.out]; unfold worseS; rw [q1, q2, q3]; rfl)
        go_wp2
        go_roundw
        case rel => exact ⟨k + 1, bst, by omega, by go_num, by rw [HN.out, ← HBST.out, HS.out], HX3.out, HZ3.out, by rw [← HEE.out]; exact HE3.out, HK3.out⟩
        case measure => simp [intOf]; omega
      have HW := Lib.hid hw
      clear hw
      have hnext : Hid (∀ w4, Below w3.heap.size w3 w4 → goodB x.l p = false → RunAt w4 (fun q => (P q ∨ q = w.heap.size + 1) ∨ q = w2.heap.size) w.heap.size (some ⟨b, off, none⟩) c B d x ∧ Blk w4 (w.heap.size + 1) 120 #[.int .i64 0, .int .i64 0, .int .i64 0, .int .i64 0, .int .i64 0, .int .i64 0, .int .i64 0, .int .i64 0, .int .i64 0, .slice none 0 0, .slice none 0 0] ∧
          Blk w4 w2.heap.size 49 #[.int .i64 (bestS bst).k, .int .i64 (bestS bst).r, .int .i64 (bestS bst).v, .int .i64 (bestS bst).p, .int .i64 (bestS bst).f] ∧ Keep P w w4) := fun w4 hb _ =>
        ⟨HX3.out.below hb, HZ3.out.below hb hltz, by rw [← HEE.out]; exact HE3.out.below hb hlte, HK3.out.trans (Keep.of_below hb HKP.out)⟩
      have hset : Hid (∀ w4, Below w3.heap.size w3 w4 → goodB x.l p = true → ∀ w5, w5 = ((((w4.setCell ⟨w2.heap.size, 0, none⟩ (.int .i64 p.k)).setCell ⟨w2.heap.size, 1, none⟩ (.int .i64 p.r)).setCell ⟨w2.heap.size, 2, none⟩ (.int .i64 p.v)).setCell ⟨w2.heap.size, 3, none⟩ (.int .i64 p.p)).setCell ⟨w2.heap.size, 4, none⟩ (.int .i64 p.f) →
          RunAt w5 (fun q => (P q ∨ q = w.heap.size + 1) ∨ q = w2.heap.size) w.heap.size (some ⟨b, off, none⟩) c B d x ∧ Blk w5 (w.heap.size + 1) 120 #[.int .i64 0, .int .i64 0, .int .i64 0, .int .i64 0, .int .i64 0, .int .i64 0, .int .i64 0, .int .i64 0, .int .i64 0, .slice none 0 0, .slice none 0 0] ∧
          Blk w5 w2.heap.size 49 #[.int .i64 p.k, .int .i64 p.r, .int .i64 p.v, .int .i64 p.p, .int .i64 p.f] ∧ Keep P w w5) := fun w4 hb _ w5 h5 => by
        subst h5
        have h1 := HX3.out.below hb
        have h2 := HZ3.out.below hb hltz
        have h3 := HE3.out.below hb hlte
        have h4 := HK3.out.trans (Keep.of_below hb HKP.out)
        refine ⟨((((h1.far (.inr rfl) _).far (.inr rfl) _).far (.inr rfl) _).far (.inr rfl) _).far (.inr rfl) _, ((((h2.far hne3 _).far hne3 _).far hne3 _).far hne3 _).far hne3 _, ?_, ((((h4.setCell hne4 _).setCell hne4 _).setCell hne4 _).setCell hne4 _).setCell hne4 _⟩
        have h := ((((h3.set_ 0 (.int .i64 p.k)).set_ 1 (.int .i64 p.r)).set_ 2 (.int .i64 p.v)).set_ 3 (.int .i64 p.p)).set_ 4 (.int .i64 p.f)
        simp only [List.setIfInBounds_toArray, List.set_cons_zero, List.set_cons_succ] at h
        exact h
      have H4 := Lib.hid (froms4_of HOK.out)
      cases g2 : decide (countN x.l 3 p.r p.v < 3)
      · have HG : Hid (goodB x.l p = true) := by
          show _ = _
          rw [decide_eq_false_iff_not] at g2
          have h3 : decide (3 ≤ countN x.l 3 p.r p.v) = true := decide_eq_true (by omega)
          unfold goodB; rw [g1, h3]; rfl
        have HS : Hid (bestStep x.l bst p = some p) := step_better (by rw [← HEE.out]; exact HW.out) HG.out
        have hq : (p.r == e.r) = false ∨ ((p.r == e.r) = true ∧ decide (e.v ≤ p.v) = false) := by
          have h := HW.out
          unfold worseS at h
          rw [q1, Bool.false_or] at h
          cases h1 : (p.r == e.r)
          · exact .inl rfl
          · rw [h1, Bool.true_and] at h; exact .inr ⟨rfl, h⟩
        rcases hq with q2 | ⟨q2, q3⟩
        all_goals
          go_upto_region 7 with (go_at_call 62; (refine (l16Count_any _ x.l.length c x.l 3 p.r p.v _ (by exact HX3.out.rows.rl) (by omega) H4.out).mono ?_); rintro e4 w4 ⟨rfl, hb4⟩)
          have tm4 : ∀ o, w4.cell? ⟨wr.heap.size, o, none⟩ = _ := fun o => ((bcell hb4).1 _ _ hltm).trans (tm o)
          have te4 := (HE3.out.below hb4 hlte).cell
          have tf4 := (HE3.out.below hb4 hlte).frozen
          have HB4 := Lib.hid hb4
          clear hb4 tm te tb
          go_wp2
          go_roundw
          case rel => exact ⟨k + 1, some p, by omega, by go_num, by rw [HN.out, ← HBST.out, HS.out], hset.out w4 HB4.out HG.out _ rfl⟩
          case measure => simp [intOf]; omega
      · have HG : Hid (goodB x.l p = false) := by
          show _ = _
          rw [decide_eq_true_eq] at g2
          have h3 : decide (3 ≤ countN x.l 3 p.r p.v) = false := decide_eq_false (by omega)
          unfold goodB; rw [h3, Bool.and_false]
        have HS : Hid (bestStep x.l bst p = bst) := step_bad HG.out
        have hq : (p.r == e.r) = false ∨ ((p.r == e.r) = true ∧ decide (e.v ≤ p.v) = false) := by
          have h := HW.out
          unfold worseS at h
          rw [q1, Bool.false_or] at h
          cases h1 : (p.r == e.r)
          · exact .inl rfl
          · rw [h1, Bool.true_and] at h; exact .inr ⟨rfl, h⟩
        rcases hq with q2 | ⟨q2, q3⟩
        all_goals
          go_wp2_with (go_at_call 62; (refine (l16Count_any _ x.l.length c x.l 3 p.r p.v _ (by exact HX3.out.rows.rl) (by omega) H4.out).mono ?_); rintro e4 w4 ⟨rfl, hb4⟩)
          go_roundw
          case rel => exact ⟨k + 1, bst, by omega, by go_num, by rw [HN.out, ← HBST.out, HS.out], hnext.out w4 hb4 HG.out⟩
          case measure => simp [intOf]; omega
    · obtain rfl : k = x.l.length := by omega
      have HBB : Hid (bestOf x.l x.l = bst) := by show _ = _; unfold bestOf; have := HBST.out; rw [List.take_length] at this; exact this.symm
      have te := HE0.out.cell
      have hltb := HX.out.lt
      have tbf := HX.out.free
      have tz := HZ.out.cell
      have tzf := HZ.out.frozen
      have hltz := HZ.out.lt
      have hne' : w.heap.size ≠ w.heap.size + 1 := by omega
      cases bst with
      | none =>
        have HE : Hid (decR x = x) := by show _ = _; unfold decR; rw [HBB.out]
        have HE2 : Hid ((bestOf x.l x.l).isSome = false) := by show _ = _; simp [HBB.out]
        simp only [bestS, Option.getD_none] at te
        go_wp2_with fail
        rw [HE2.out]
        refine bodyPost_ret (v := .tuple #[runV x A c B d, .bool false]) (by unfold runV; first | (simp [results, Try.results135, go_sem, tz]; done) | (simp [results, Try.results135, go_sem, tz]; repeat' (first | rfl | constructor))) rfl ?_
        refine ⟨A, c, B, d, by rw [HE.out] <;> rfl, ?_, ?_, fun h => by first | exact ⟨rfl, rfl, rfl, rfl⟩ | cases h⟩
        · rw [HE.out]
          show Rows (fillR wr (w.heap.size + 1) A c B d x) P A c B d x
          exact (fillR_rows (HX.out.rows.mono (Q := fun q => (P q ∨ q = w.heap.size + 1) ∨ q = w.heap.size) fun q hq => hq.elim (fun h => .inl (.inl h)) .inr) (.inl (.inr rfl))).mono fun q hq => .inl (.inl hq)
        · show Keep P w (fillR wr (w.heap.size + 1) A c B d x)
          exact fillR_keep HK.out hnz
      | some q =>
        have hq := bestOf_some HBB.out
        have hqr : (q.r == 12) = false := by
          have := ((okMsg_iff q).1 (msgsOk_mem HOK.out hq.1)).2.1.2
          exact beq_eq_false_iff_ne.2 (by omega)
        have HE : Hid (decR x = ⟨withDec x.s q.v, x.l, x.o⟩) := by show _ = _; unfold decR; rw [HBB.out]
        have HE2 : Hid ((bestOf x.l x.l).isSome = true) := by show _ = _; simp [HBB.out]
        clear hq
        simp only [bestS, Option.getD_some] at te
        go_wp2_with fail
        rw [HE2.out]
        have HX6 := Lib.hid (HX.out.put 8 (.int .i64 q.v) (withDec x.s q.v) rfl)
        refine bodyPost_ret (v := .tuple #[runV ⟨withDec x.s q.v, x.l, x.o⟩ A c B d, .bool true]) (by unfold runV; first | (simp [results, Try.results135, go_sem, tz]; done) | (simp [results, Try.results135, go_sem, tz]; repeat' (first | rfl | constructor))) rfl ?_
        refine ⟨A, c, B, d, by rw [HE.out] <;> rfl, ?_, ?_, fun h => by first | exact ⟨rfl, rfl, rfl, rfl⟩ | cases h⟩
        · rw [HE.out]
          show Rows (fillR (wr.setCell ⟨w.heap.size, 8, none⟩ (.int .i64 q.v)) (w.heap.size + 1) A c B d ⟨withDec x.s q.v, x.l, x.o⟩) P A c B d ⟨withDec x.s q.v, x.l, x.o⟩
          exact (fillR_rows (HX6.out.rows.mono (Q := fun q => (P q ∨ q = w.heap.size + 1) ∨ q = w.heap.size) fun q hq => hq.elim (fun h => .inl (.inl h)) .inr) (.inl (.inr rfl))).mono fun q hq => .inl (.inl hq)
        · show Keep P w (fillR (wr.setCell ⟨w.heap.size, 8, none⟩ (.int .i64 q.v)) (w.heap.size + 1) A c B d ⟨withDec x.s q.v, x.l, x.o⟩)
          exact fillR_keep (HK.out.setCell hnb _) hnz
end Go.Proofs.Ytjgaelnonacdkaa
