/- RunBox, RunStep: joined into one text. -/
import Derived.WalkKit
import Derived.WalkSpells
import Derived.WalkLawsBesides
import Derived.Lib.Hide
import Derived.Deep.QuietTactic
import Derived.BigQuiet
import Derived.Test.YtjgaelnonacdkaaMRunSend
import Derived.Test.YtjgaelnonacdkaaStillMore
namespace Go.Proofs.Ytjgaelnonacdkaa
open Go.RowKit

structure RunAt (w : World) (P : Nat → Prop) (g : Nat) (A : Option Addr) (c : Nat) (B : Option Addr) (d : Nat) (x : RunS) : Prop where
  blk : Blk w g 120 (actC x A c B d)
  np : ¬ P g
  rows : Rows w (fun q => P q ∨ q = g) A c B d x
section
variable {P Q : Nat → Prop} {w w' : World} {g : Nat} {A B : Option Addr} {c d : Nat} {x : RunS}
theorem RunAt.cells (h : RunAt w P g A c B d x) : ∀ i, w.cell? ⟨g, i, none⟩ = #[.int .i64 x.s.me, .int .i64 x.s.round, .int .i64 x.s.step, .int .i64 x.s.lv, .int .i64 x.s.lr, .int .i64 x.s.vv, .int .i64 x.s.vr, .int .i64 x.s.polka, .int .i64 x.s.dec, .slice A x.l.length c, .slice B x.o.length d][i]? := h.blk.cell
theorem RunAt.free (h : RunAt w P g A c B d x) : ∀ i, w.frozen? ⟨g, i, none⟩ = false := h.blk.frozen
theorem RunAt.lt (h : RunAt w P g A c B d x) : g < w.heap.size := h.blk.lt
theorem RunAt.ltP (h : RunAt w P g A c B d x) : ∀ q, P q → q < w.heap.size := fun q hq => h.rows.lt q (.inl hq)
theorem RunAt.below (h : RunAt w P g A c B d x) (hb : Below w.heap.size w w') : RunAt w' P g A c B d x := ⟨h.blk.below hb h.lt, h.np, h.rows.below hb⟩
theorem RunAt.keep (h : RunAt w P g A c B d x) (hb : Below w.heap.size w w') : Keep P w w' := Keep.of_below hb h.ltP
theorem RunAt.alloc (h : RunAt w P g A c B d x) (o : Obj) : RunAt (w.alloc o) P g A c B d x := h.below ((Below.refl _ _).alloc (Nat.le_refl _) o)
theorem RunAt.drew (h : RunAt w P g A c B d x) : RunAt w.drew P g A c B d x := ⟨h.blk.drew, h.np, h.rows.drew⟩
theorem RunAt.drewN (h : RunAt w P g A c B d x) (n : Nat) : RunAt (w.drewN n) P g A c B d x := ⟨h.blk.drewN n, h.np, h.rows.drewN n⟩
theorem RunAt.mono (h : RunAt w P g A c B d x) (hq : ∀ q, Q q → P q) : RunAt w Q g A c B d x := ⟨h.blk, fun e => h.np (hq g e), h.rows.mono fun q e => e.elim (fun e => .inl (hq q e)) .inr⟩
/-- a new block, from now on kept -/
theorem RunAt.new (h : RunAt w P g A c B d x) (o : Obj) : RunAt (w.alloc o) (fun q => P q ∨ q = w.heap.size) g A c B d x :=
  ⟨h.blk.alloc o, fun e => e.elim h.np fun e => by have := h.lt; omega, (h.rows.new o).mono fun q e => e.elim (fun e => e.elim (fun e => .inl (.inl e)) .inr) fun e => .inl (.inr e)⟩
theorem RunAt.put (h : RunAt w P g A c B d x) (i : Nat) (u : Value) (s' : NodeS) (hs : (actC x A c B d).setIfInBounds i u = actC ⟨s', x.l, x.o⟩ A c B d) : RunAt (w.setCell ⟨g, i, none⟩ u) P g A c B d ⟨s', x.l, x.o⟩ :=
  ⟨hs ▸ h.blk.set_ i u, h.np, (h.rows.keeps (.inr rfl) u).state s'⟩
theorem RunAt.puts (h : RunAt w P g A c B d x) (i : Nat) (u : Value) : Keep P w (w.setCell ⟨g, i, none⟩ u) := (Keep.refl P w).setCell h.np u
/-- a store into a block that is kept -/
theorem RunAt.far (h : RunAt w P g A c B d x) {p : Addr} (hp : P p.block) (u : Value) : RunAt (w.setCell p u) P g A c B d x :=
  ⟨h.blk.far (fun e => h.np (e ▸ hp)) u, h.np, h.rows.keeps (.inl hp) u⟩
end

/-- a whole run stored into a block -/
def fillR (w : World) (g : Nat) (A : Option Addr) (c : Nat) (B : Option Addr) (d : Nat) (x : RunS) : World := ((((((((((w.setCell ⟨g, 0, none⟩ (.int .i64 x.s.me)).setCell ⟨g, 1, none⟩ (.int .i64 x.s.round)).setCell ⟨g, 2, none⟩ (.int .i64 x.s.step)).setCell ⟨g, 3, none⟩ (.int .i64 x.s.lv)).setCell ⟨g, 4, none⟩ (.int .i64 x.s.lr)).setCell ⟨g, 5, none⟩ (.int .i64 x.s.vv)).setCell ⟨g, 6, none⟩ (.int .i64 x.s.vr)).setCell ⟨g, 7, none⟩ (.int .i64 x.s.polka)).setCell ⟨g, 8, none⟩ (.int .i64 x.s.dec)).setCell ⟨g, 9, none⟩ (.slice A x.l.length c)).setCell ⟨g, 10, none⟩ (.slice B x.o.length d)
section
variable {P Q : Nat → Prop} {w a : World} {g q : Nat} {A B : Option Addr} {c d : Nat} {x : RunS} {t : TypeId} {cs : Array Value}
theorem fillR_blk (h : Blk w g t cs) (hs : cs.size = 11) : Blk (fillR w g A c B d x) g t (actC x A c B d) := by
  obtain ⟨l⟩ := cs
  obtain ⟨k0, k1, k2, k3, k4, k5, k6, k7, k8, k9, k10, rfl⟩ : ∃ c0 c1 c2 c3 c4 c5 c6 c7 c8 c9 c10, l = [c0, c1, c2, c3, c4, c5, c6, c7, c8, c9, c10] := by
    match l, hs with
    | [c0, c1, c2, c3, c4, c5, c6, c7, c8, c9, c10], _ => exact ⟨c0, c1, c2, c3, c4, c5, c6, c7, c8, c9, c10, rfl⟩
  have hb := ((((((((((h.set_ 0 (.int .i64 x.s.me)).set_ 1 (.int .i64 x.s.round)).set_ 2 (.int .i64 x.s.step)).set_ 3 (.int .i64 x.s.lv)).set_ 4 (.int .i64 x.s.lr)).set_ 5 (.int .i64 x.s.vv)).set_ 6 (.int .i64 x.s.vr)).set_ 7 (.int .i64 x.s.polka)).set_ 8 (.int .i64 x.s.dec)).set_ 9 (.slice A x.l.length c)).set_ 10 (.slice B x.o.length d)
  simp only [List.setIfInBounds_toArray, List.set_cons_zero, List.set_cons_succ] at hb
  exact hb
theorem fillR_far (h : Blk w q t cs) (hn : q ≠ g) : Blk (fillR w g A c B d x) q t cs := ((((((((((h.far hn _).far hn _).far hn _).far hn _).far hn _).far hn _).far hn _).far hn _).far hn _).far hn _).far hn _
theorem fillR_rows {A' B' : Option Addr} {c' d' : Nat} {x' : RunS} (h : Rows w P A' c' B' d' x') (hp : P g) : Rows (fillR w g A c B d x) P A' c' B' d' x' := ((((((((((h.keeps hp _).keeps hp _).keeps hp _).keeps hp _).keeps hp _).keeps hp _).keeps hp _).keeps hp _).keeps hp _).keeps hp _).keeps hp _
theorem fillR_keep (h : Keep P a w) (hn : ¬ P g) : Keep P a (fillR w g A c B d x) := ((((((((((h.setCell hn _).setCell hn _).setCell hn _).setCell hn _).setCell hn _).setCell hn _).setCell hn _).setCell hn _).setCell hn _).setCell hn _).setCell hn _
theorem fillR_at (hr : Rows w Q A c B d x) (hb : Blk w g 120 cs) (hs : cs.size = 11) (hq : ∀ k, P k ∨ k = g → Q k) (hn : ¬ P g) : RunAt (fillR w g A c B d x) P g A c B d x :=
  ⟨fillR_blk hb hs, hn, (fillR_rows hr (hq g (.inr rfl))).mono hq⟩
end

theorem run_open {P : Nat → Prop} {w : World} {A B : Option Addr} {c d : Nat} {x : RunS} (h : Rows w P A c B d x) :
    RunAt ((w.alloc (.cells (actC x A c B d) 120)).alloc (.cells runZ 120)) (fun q => P q ∨ q = w.heap.size + 1) w.heap.size A c B d x ∧
      Blk ((w.alloc (.cells (actC x A c B d) 120)).alloc (.cells runZ 120)) (w.heap.size + 1) 120 runZ ∧
      Keep P w ((w.alloc (.cells (actC x A c B d) 120)).alloc (.cells runZ 120)) := by
  refine ⟨⟨(show Blk _ _ _ _ from heap_alloc_new w _).alloc _, fun e => ?_, ((h.new _).new _).mono fun q hq => ?_⟩, ?_, ?_⟩
  · rcases e with e | e
    · have := h.lt _ e; omega
    · omega
  · simp only [World.size_alloc]
    rcases hq with (e | e) | e
    · exact .inl (.inl e)
    · exact .inr e
    · exact .inl (.inr e)
  · have h2 := heap_alloc_new (w.alloc (.cells (actC x A c B d) 120)) (.cells runZ 120)
    rw [World.size_alloc] at h2
    exact h2
  · exact Keep.of_below (((Below.refl _ _).alloc (Nat.le_refl _) _).alloc (by simp) _) h.lt
end Go.Proofs.Ytjgaelnonacdkaa
namespace Go.Proofs.Ytjgaelnonacdkaa
open Go.RowKit

set_option maxRecDepth 100000 in
set_option maxHeartbeats 4000000 in
theorem l16Begin_any (P : Nat → Prop) (A : Option Addr) (c : Nat) (B : Option Addr) (d : Nat) (x : RunS) (r : Int) (w : World) (hx : Rows w P A c B d x) (hl : x.l.length ≤ 1000) (ho : x.o.length ≤ 1000)
    (h0 : 0 ≤ r) (h1 : r ≤ 1000000) (hme : 1 ≤ x.s.me ∧ x.s.me ≤ 4) (hvr : -1 ≤ x.s.vr) :
    Calls Try.prog 95 #[runV x A c B d, .int .i64 r] w (RunOut P (startR x r) w) := by
  have HR := Lib.hid hx
  have hp1 : propOf r ≤ 4 := by unfold propOf; omega
  have hp0 : 1 ≤ propOf r := by unfold propOf; omega
  clear hx
  unfold runV
  go_enter Try.func95, Try.ntmps95
  go_upto_region 1 with fail
  obtain ⟨w2, hw2⟩ : ∃ q, q = (w.alloc (.cells #[.int .i64 x.s.me, .int .i64 x.s.round, .int .i64 x.s.step, .int .i64 x.s.lv, .int .i64 x.s.lr, .int .i64 x.s.vv, .int .i64 x.s.vr, .int .i64 x.s.polka, .int .i64 x.s.dec, .slice A x.l.length c, .slice B x.o.length d] 120)).alloc (.cells #[.int .i64 0, .int .i64 0, .int .i64 0, .int .i64 0, .int .i64 0, .int .i64 0, .int .i64 0, .int .i64 0, .int .i64 0, .slice none 0 0, .slice none 0 0] 120) := ⟨_, rfl⟩
  rw [← hw2]
  have HX2 : Hid (RunAt w2 (fun q => P q ∨ q = w.heap.size + 1) w.heap.size A c B d x) := by show RunAt _ _ _ _ _ _ _ _; rw [hw2]; exact (run_open HR.out).1
  have HZ2 : Hid (Blk w2 (w.heap.size + 1) 120 #[.int .i64 0, .int .i64 0, .int .i64 0, .int .i64 0, .int .i64 0, .int .i64 0, .int .i64 0, .int .i64 0, .int .i64 0, .slice none 0 0, .slice none 0 0]) := by show Blk _ _ _ _; rw [hw2]; exact (run_open HR.out).2.1
  have HK2 : Hid (Keep P w w2) := by show Keep _ _ _; rw [hw2]; exact (run_open HR.out).2.2
  have hnb : ¬ P w.heap.size := fun h => by have := HR.out.lt _ h; omega
  have hnz : ¬ P (w.heap.size + 1) := fun h => by have := HR.out.lt _ h; omega
  have hne : w.heap.size + 1 ≠ w.heap.size := by omega
  clear hw2
  have tb := HX2.out.cells
  have tbf := HX2.out.free
  have tz := HZ2.out.cell
  have tzf := HZ2.out.frozen
  have hltb := HX2.out.lt
  have hltz := HZ2.out.lt
  go_upto_region 3 with fail
  obtain ⟨w3, hw3⟩ : ∃ q, q = (w2.setCell ⟨w.heap.size, 1, none⟩ (.int .i64 r)).setCell ⟨w.heap.size, 2, none⟩ (.int .i64 1) := ⟨_, rfl⟩
  rw [← hw3]
  have HX3 : Hid (RunAt w3 (fun q => P q ∨ q = w.heap.size + 1) w.heap.size A c B d ⟨atRound x.s r, x.l, x.o⟩) := by
    show RunAt _ _ _ _ _ _ _ _
    rw [hw3]
    exact (HX2.out.put 1 (.int .i64 r) ⟨x.s.me, r, x.s.step, x.s.lv, x.s.lr, x.s.vv, x.s.vr, x.s.polka, x.s.dec⟩ rfl).put 2 (.int .i64 1) (atRound x.s r) rfl
  have HZ3 : Hid (Blk w3 (w.heap.size + 1) 120 #[.int .i64 0, .int .i64 0, .int .i64 0, .int .i64 0, .int .i64 0, .int .i64 0, .int .i64 0, .int .i64 0, .int .i64 0, .slice none 0 0, .slice none 0 0]) := by show Blk _ _ _ _; rw [hw3]; exact (HZ2.out.far hne _).far hne _
  have HK3 : Hid (Keep P w w3) := by show Keep _ _ _; rw [hw3]; exact (HK2.out.setCell hnb _).setCell hnb _
  clear hw3 tb tbf tz tzf hltb hltz
  have tb := HX3.out.cells
  simp only [atRound] at tb
  have tz := HZ3.out.cell
  have tzf := HZ3.out.frozen
  have hltb := HX3.out.lt
  have hltz := HZ3.out.lt
  cases hp : (propOf r == x.s.me)
  · have HE : Hid (startR x r = ⟨atRound x.s r, x.l, x.o⟩) := by show _ = _; unfold startR; rw [hp]; rfl
    go_quiet ((go_at_call 93; exact quiet_sym (l16Proposer_any r _ h0 h1)))
    go_wp2_with fail
    refine bodyPost_ret (v := runV ⟨atRound x.s r, x.l, x.o⟩ A c B d) (by unfold runV; first | (simp [results, Try.results95, go_sem, tz]; done) | (simp [results, Try.results95, go_sem, tz]; repeat' (first | rfl | constructor))) rfl ?_
    refine ⟨A, c, B, d, by rw [HE.out], ?_, ?_⟩
    · rw [HE.out]
      show Rows (fillR (w3.drewN nq) (w.heap.size + 1) A c B d ⟨atRound x.s r, x.l, x.o⟩) P A c B d ⟨atRound x.s r, x.l, x.o⟩
      exact (fillR_rows (HX3.out.rows.drewN nq) (.inl (.inr rfl))).mono fun q hq => .inl (.inl hq)
    · show Keep P w (fillR (w3.drewN nq) (w.heap.size + 1) A c B d ⟨atRound x.s r, x.l, x.o⟩)
      exact fillR_keep (HK3.out.drewN nq) hnz
  · cases hv : (x.s.vr == -1)
    · have HE : Hid (startR x r = sendR ⟨atRound x.s r, x.l, x.o⟩ 1 x.s.vv x.s.vr) := by show _ = _; unfold startR; rw [hp, hv]; rfl
      have hv0 : 0 ≤ x.s.vr := by rw [beq_eq_false_iff_ne] at hv; omega
      go_quiet ((go_at_call 93; exact quiet_sym (l16Proposer_any r _ h0 h1)))
      go_wp2_with fail
      refine (l16Send_any (fun q => (P q ∨ q = w.heap.size + 1) ∨ q = w.heap.size) A c B d ⟨atRound x.s r, x.l, x.o⟩ _ _ _ _ (HX3.out.rows.drewN _) hl ho).mono ?_
      rintro e w4 ⟨A2, c2, B2, d2, rfl, hr4, hk4⟩
      unfold runV
      clear tz tzf tb
      have HZ4 := Lib.hid (hk4.blk (.inl (.inr rfl)) (HZ3.out.drewN _))
      have tz := HZ4.out.cell
      have tzf := HZ4.out.frozen
      go_wp2_with fail
      refine bodyPost_ret (v := runV (sendR ⟨atRound x.s r, x.l, x.o⟩ 1 x.s.vv x.s.vr) A2 c2 B2 d2) (by unfold runV; first | (simp [results, Try.results95, go_sem, tz]; done) | (simp [results, Try.results95, go_sem, tz]; repeat' (first | rfl | constructor))) rfl ?_
      refine ⟨A2, c2, B2, d2, by rw [HE.out], ?_, ?_⟩
      · rw [HE.out]
        show Rows (fillR w4 (w.heap.size + 1) A2 c2 B2 d2 (sendR ⟨atRound x.s r, x.l, x.o⟩ 1 x.s.vv x.s.vr)) P A2 c2 B2 d2 (sendR ⟨atRound x.s r, x.l, x.o⟩ 1 x.s.vv x.s.vr)
        exact (fillR_rows hr4 (.inl (.inr rfl))).mono fun q hq => .inl (.inl hq)
      · show Keep P w (fillR w4 (w.heap.size + 1) A2 c2 B2 d2 (sendR ⟨atRound x.s r, x.l, x.o⟩ 1 x.s.vv x.s.vr))
        exact fillR_keep ((HK3.out.drewN _).trans (hk4.mono fun q hq => .inl (.inl hq))) hnz
    · have HE : Hid (startR x r = sendR ⟨atRound x.s r, x.l, x.o⟩ 1 (10 + x.s.me) (-1)) := by show _ = _; unfold startR; rw [hp, hv]; rfl
      have hv0 : x.s.vr < 0 := by rw [beq_iff_eq] at hv; omega
      go_quiet ((go_at_call 93; exact quiet_sym (l16Proposer_any r _ h0 h1)))
      go_wp2_with fail
      refine (l16Send_any (fun q => (P q ∨ q = w.heap.size + 1) ∨ q = w.heap.size) A c B d ⟨atRound x.s r, x.l, x.o⟩ _ _ _ _ (HX3.out.rows.drewN _) hl ho).mono ?_
      rintro e w4 ⟨A2, c2, B2, d2, rfl, hr4, hk4⟩
      unfold runV
      clear tz tzf tb
      have HZ4 := Lib.hid (hk4.blk (.inl (.inr rfl)) (HZ3.out.drewN _))
      have tz := HZ4.out.cell
      have tzf := HZ4.out.frozen
      go_wp2_with fail
      refine bodyPost_ret (v := runV (sendR ⟨atRound x.s r, x.l, x.o⟩ 1 (10 + x.s.me) (-1)) A2 c2 B2 d2) (by unfold runV; first | (simp [results, Try.results95, go_sem, tz]; done) | (simp [results, Try.results95, go_sem, tz]; repeat' (first | rfl | constructor))) rfl ?_
      refine ⟨A2, c2, B2, d2, by rw [HE.out], ?_, ?_⟩
      · rw [HE.out]
        show Rows (fillR w4 (w.heap.size + 1) A2 c2 B2 d2 (sendR ⟨atRound x.s r, x.l, x.o⟩ 1 (10 + x.s.me) (-1))) P A2 c2 B2 d2 (sendR ⟨atRound x.s r, x.l, x.o⟩ 1 (10 + x.s.me) (-1))
        exact (fillR_rows hr4 (.inl (.inr rfl))).mono fun q hq => .inl (.inl hq)
      · show Keep P w (fillR w4 (w.heap.size + 1) A2 c2 B2 d2 (sendR ⟨atRound x.s r, x.l, x.o⟩ 1 (10 + x.s.me) (-1)))
        exact fillR_keep ((HK3.out.drewN _).trans (hk4.mono fun q hq => .inl (.inl hq))) hnz

set_option maxRecDepth 100000 in
set_option maxHeartbeats 4000000 in
theorem l16Prevote_any (P : Nat → Prop) (A : Option Addr) (c : Nat) (B : Option Addr) (d : Nat) (x : RunS) (v : Int) (w : World) (hx : Rows w P A c B d x) (hl : x.l.length ≤ 1000) (ho : x.o.length ≤ 1000) :
    Calls Try.prog 96 #[runV x A c B d, .int .i64 v] w (RunOut P (prevoteR x v) w) := by
  have HR := Lib.hid hx
  clear hx
  have HE : Hid (prevoteR x v = setStep (sendR x 2 v (-1)) 2) := rfl
  unfold runV
  go_enter Try.func96, Try.ntmps96
  go_upto_region 1 with fail
  obtain ⟨w2, hw2⟩ : ∃ q, q = (w.alloc (.cells #[.int .i64 x.s.me, .int .i64 x.s.round, .int .i64 x.s.step, .int .i64 x.s.lv, .int .i64 x.s.lr, .int .i64 x.s.vv, .int .i64 x.s.vr, .int .i64 x.s.polka, .int .i64 x.s.dec, .slice A x.l.length c, .slice B x.o.length d] 120)).alloc (.cells #[.int .i64 0, .int .i64 0, .int .i64 0, .int .i64 0, .int .i64 0, .int .i64 0, .int .i64 0, .int .i64 0, .int .i64 0, .slice none 0 0, .slice none 0 0] 120) := ⟨_, rfl⟩
  rw [← hw2]
  have HX2 : Hid (RunAt w2 (fun q => P q ∨ q = w.heap.size + 1) w.heap.size A c B d x) := by show RunAt _ _ _ _ _ _ _ _; rw [hw2]; exact (run_open HR.out).1
  have HZ2 : Hid (Blk w2 (w.heap.size + 1) 120 #[.int .i64 0, .int .i64 0, .int .i64 0, .int .i64 0, .int .i64 0, .int .i64 0, .int .i64 0, .int .i64 0, .int .i64 0, .slice none 0 0, .slice none 0 0]) := by show Blk _ _ _ _; rw [hw2]; exact (run_open HR.out).2.1
  have HK2 : Hid (Keep P w w2) := by show Keep _ _ _; rw [hw2]; exact (run_open HR.out).2.2
  have hnb : ¬ P w.heap.size := fun h => by have := HR.out.lt _ h; omega
  have hnz : ¬ P (w.heap.size + 1) := fun h => by have := HR.out.lt _ h; omega
  have hne : w.heap.size + 1 ≠ w.heap.size := by omega
  clear hw2
  have tb := HX2.out.cells
  have tbf := HX2.out.free
  have tz := HZ2.out.cell
  have tzf := HZ2.out.frozen
  have hltb := HX2.out.lt
  have hltz := HZ2.out.lt
  go_wp2_with fail
  refine (l16Send_any (fun q => (P q ∨ q = w.heap.size + 1) ∨ q = w.heap.size) A c B d x _ _ _ _ HX2.out.rows hl ho).mono ?_
  rintro e w4 ⟨A2, c2, B2, d2, rfl, hr4, hk4⟩
  unfold runV
  have HR4 := Lib.hid hr4
  have HK4 := Lib.hid hk4
  clear tz tzf tb tbf hltb hltz hr4 hk4
  have HB4 := Lib.hid (HK4.out.blk (.inr rfl) HX2.out.blk)
  have HZ4 := Lib.hid (HK4.out.blk (.inl (.inr rfl)) HZ2.out)
  have tb := HB4.out.cell
  unfold actC at tb
  have tbf := HB4.out.frozen
  go_upto_region 2 with fail
  obtain ⟨y, hy⟩ : ∃ y, y = sendR x 2 v (-1) := ⟨_, rfl⟩
  rw [← hy] at HE HR4 ⊢
  clear hy
  obtain ⟨w5, hw5⟩ : ∃ q, q = fillR w4 w.heap.size A2 c2 B2 d2 y := ⟨_, rfl⟩
  have HX5 : Hid (RunAt w5 (fun q => P q ∨ q = w.heap.size + 1) w.heap.size A2 c2 B2 d2 y) := by show RunAt _ _ _ _ _ _ _ _; rw [hw5]; exact fillR_at HR4.out HB4.out rfl (fun k hk => hk) HX2.out.np
  have HZ5 : Hid (Blk w5 (w.heap.size + 1) 120 #[.int .i64 0, .int .i64 0, .int .i64 0, .int .i64 0, .int .i64 0, .int .i64 0, .int .i64 0, .int .i64 0, .int .i64 0, .slice none 0 0, .slice none 0 0]) := by show Blk _ _ _ _; rw [hw5]; exact fillR_far HZ4.out hne
  have HK5 : Hid (Keep P w w5) := by show Keep _ _ _; rw [hw5]; exact fillR_keep (HK2.out.trans (HK4.out.mono fun q hq => .inl (.inl hq))) hnb
  unfold fillR at hw5
  rw [← hw5]
  clear hw5 tb tbf
  have tb := HX5.out.cells
  have tbf := HX5.out.free
  have tz := HZ5.out.cell
  have tzf := HZ5.out.frozen
  have hltz := HZ5.out.lt
  go_wp2_with fail
  have HX6 := Lib.hid (HX5.out.put 2 (.int .i64 2) (withStep y.s 2) rfl)
  refine bodyPost_ret (v := runV (setStep y 2) A2 c2 B2 d2) (by unfold runV; first | (simp [results, Try.results96, go_sem, tz]; done) | (simp [results, Try.results96, go_sem, tz]; repeat' (first | rfl | constructor))) rfl ?_
  refine ⟨A2, c2, B2, d2, by rw [HE.out], ?_, ?_⟩
  · rw [HE.out]
    show Rows (fillR (w5.setCell ⟨w.heap.size, 2, none⟩ (.int .i64 2)) (w.heap.size + 1) A2 c2 B2 d2 (setStep y 2)) P A2 c2 B2 d2 (setStep y 2)
    exact (fillR_rows HX6.out.rows (.inl (.inr rfl))).mono fun q hq => .inl (.inl hq)
  · show Keep P w (fillR (w5.setCell ⟨w.heap.size, 2, none⟩ (.int .i64 2)) (w.heap.size + 1) A2 c2 B2 d2 (setStep y 2))
    exact fillR_keep (HK5.out.setCell hnb _) hnz

set_option maxRecDepth 100000 in
set_option maxHeartbeats 4000000 in
theorem l16Precommit_any (P : Nat → Prop) (A : Option Addr) (c : Nat) (B : Option Addr) (d : Nat) (x : RunS) (v : Int) (w : World) (hx : Rows w P A c B d x) (hl : x.l.length ≤ 1000) (ho : x.o.length ≤ 1000) :
    Calls Try.prog 97 #[runV x A c B d, .int .i64 v] w (RunOut P (precommitR x v) w) := by
  have HR := Lib.hid hx
  clear hx
  have HE : Hid (precommitR x v = setStep (sendR x 3 v (-1)) 3) := rfl
  unfold runV
  go_enter Try.func97, Try.ntmps97
  go_upto_region 1 with fail
  obtain ⟨w2, hw2⟩ : ∃ q, q = (w.alloc (.cells #[.int .i64 x.s.me, .int .i64 x.s.round, .int .i64 x.s.step, .int .i64 x.s.lv, .int .i64 x.s.lr, .int .i64 x.s.vv, .int .i64 x.s.vr, .int .i64 x.s.polka, .int .i64 x.s.dec, .slice A x.l.length c, .slice B x.o.length d] 120)).alloc (.cells #[.int .i64 0, .int .i64 0, .int .i64 0, .int .i64 0, .int .i64 0, .int .i64 0, .int .i64 0, .int .i64 0, .int .i64 0, .slice none 0 0, .slice none 0 0] 120) := ⟨_, rfl⟩
  rw [← hw2]
  have HX2 : Hid (RunAt w2 (fun q => P q ∨ q = w.heap.size + 1) w.heap.size A c B d x) := by show RunAt _ _ _ _ _ _ _ _; rw [hw2]; exact (run_open HR.out).1
  have HZ2 : Hid (Blk w2 (w.heap.size + 1) 120 #[.int .i64 0, .int .i64 0, .int .i64 0, .int .i64 0, .int .i64 0, .int .i64 0, .int .i64 0, .int .i64 0, .int .i64 0, .slice none 0 0, .slice none 0 0]) := by show Blk _ _ _ _; rw [hw2]; exact (run_open HR.out).2.1
  have HK2 : Hid (Keep P w w2) := by show Keep _ _ _; rw [hw2]; exact (run_open HR.out).2.2
  have hnb : ¬ P w.heap.size := fun h => by have := HR.out.lt _ h; omega
  have hnz : ¬ P (w.heap.size + 1) := fun h => by have := HR.out.lt _ h; omega
  have hne : w.heap.size + 1 ≠ w.heap.size := by omega
  clear hw2
  have tb := HX2.out.cells
  have tbf := HX2.out.free
  have tz := HZ2.out.cell
  have tzf := HZ2.out.frozen
  have hltb := HX2.out.lt
  have hltz := HZ2.out.lt
  go_wp2_with fail
  refine (l16Send_any (fun q => (P q ∨ q = w.heap.size + 1) ∨ q = w.heap.size) A c B d x _ _ _ _ HX2.out.rows hl ho).mono ?_
  rintro e w4 ⟨A2, c2, B2, d2, rfl, hr4, hk4⟩
  unfold runV
  have HR4 := Lib.hid hr4
  have HK4 := Lib.hid hk4
  clear tz tzf tb tbf hltb hltz hr4 hk4
  have HB4 := Lib.hid (HK4.out.blk (.inr rfl) HX2.out.blk)
  have HZ4 := Lib.hid (HK4.out.blk (.inl (.inr rfl)) HZ2.out)
  have tb := HB4.out.cell
  unfold actC at tb
  have tbf := HB4.out.frozen
  go_upto_region 2 with fail
  obtain ⟨y, hy⟩ : ∃ y, y = sendR x 3 v (-1) := ⟨_, rfl⟩
  rw [← hy] at HE HR4 ⊢
  clear hy
  obtain ⟨w5, hw5⟩ : ∃ q, q = fillR w4 w.heap.size A2 c2 B2 d2 y := ⟨_, rfl⟩
  have HX5 : Hid (RunAt w5 (fun q => P q ∨ q = w.heap.size + 1) w.heap.size A2 c2 B2 d2 y) := by show RunAt _ _ _ _ _ _ _ _; rw [hw5]; exact fillR_at HR4.out HB4.out rfl (fun k hk => hk) HX2.out.np
  have HZ5 : Hid (Blk w5 (w.heap.size + 1) 120 #[.int .i64 0, .int .i64 0, .int .i64 0, .int .i64 0, .int .i64 0, .int .i64 0, .int .i64 0, .int .i64 0, .int .i64 0, .slice none 0 0, .slice none 0 0]) := by show Blk _ _ _ _; rw [hw5]; exact fillR_far HZ4.out hne
  have HK5 : Hid (Keep P w w5) := by show Keep _ _ _; rw [hw5]; exact fillR_keep (HK2.out.trans (HK4.out.mono fun q hq => .inl (.inl hq))) hnb
  unfold fillR at hw5
  rw [← hw5]
  clear hw5 tb tbf
  have tb := HX5.out.cells
  have tbf := HX5.out.free
  have tz := HZ5.out.cell
  have tzf := HZ5.out.frozen
  have hltz := HZ5.out.lt
  go_wp2_with fail
  have HX6 := Lib.hid (HX5.out.put 2 (.int .i64 3) (withStep y.s 3) rfl)
  refine bodyPost_ret (v := runV (setStep y 3) A2 c2 B2 d2) (by unfold runV; first | (simp [results, Try.results97, go_sem, tz]; done) | (simp [results, Try.results97, go_sem, tz]; repeat' (first | rfl | constructor))) rfl ?_
  refine ⟨A2, c2, B2, d2, by rw [HE.out], ?_, ?_⟩
  · rw [HE.out]
    show Rows (fillR (w5.setCell ⟨w.heap.size, 2, none⟩ (.int .i64 3)) (w.heap.size + 1) A2 c2 B2 d2 (setStep y 3)) P A2 c2 B2 d2 (setStep y 3)
    exact (fillR_rows HX6.out.rows (.inl (.inr rfl))).mono fun q hq => .inl (.inl hq)
  · show Keep P w (fillR (w5.setCell ⟨w.heap.size, 2, none⟩ (.int .i64 3)) (w.heap.size + 1) A2 c2 B2 d2 (setStep y 3))
    exact fillR_keep (HK5.out.setCell hnb _) hnz
end Go.Proofs.Ytjgaelnonacdkaa
