/- The program's NodeGet returns what the reference's returns, for all arguments. No conditions. (written by wip/nlaw.py) -/
import Derived.Test.YtmpppmeloieamaaNodeLaw2
import Derived.Test.YtmpppmeloieamaaActCalls
import Derived.Test.YtmpppmeloieamaaRunCalls
import Derived.Test.YtmpppmeloieamaaElNMsg
import Derived.Test.YtmpppmeloieamaaL
import Derived.Test.YtmpppmeloieamaaReg
import Derived.Deep.RegionWith
import Derived.Deep.DeepCutAuto
namespace Go.Proofs.Ytmpppmeloieamaa
open Go.ChangeShapes Go.WideShapes Go.ChangeAt Go.RowKit Go.Joins

theorem Chg.under {lo hi B : Nat} {a b : World} (h : Chg lo hi a b) (hB : B ≤ lo ∨ hi ≤ lo) (hs : B ≤ a.heap.size) : Below B a b :=
  ⟨h.os, h.tape, h.output, h.size, fun k hk => h.block k (by omega) (by omega)⟩
theorem getk {b : Act} {dd : Option Nat} {v : Value} {s : Nat} {X : Value} (h : b.tmps.getD s undef = X) (hd : dd ≠ some s) : (b.put dd v).tmps.getD s undef = X := by
  cases dd with
  | none => exact h
  | some d => exact (put_getD_ne b d s v (fun e => hd (by rw [e]))).trans h
theorem Rows.turn {P : Nat → Prop} {w w' : World} {A B : Option Addr} {c d : Nat} {x : RunS} (h : Rows w P A c B d x) (hE : BoxTurn 28 w w') : Rows w' P A c B d x :=
  ⟨hE.row (by decide) h.la, hE.row (by decide) h.ob, h.sep, h.pa, h.pb, fun q hp => Nat.lt_of_lt_of_le (h.lt q hp) hE.size⟩
theorem own_row {w' : World} {B n : Nat} {A : Option Addr} {c : Nat} {l : List NMsgD} (h : w'.ownsRow B 40 5 (.slice A n c) n (l.flatMap msgC)) (hl : l.length = n) : OwnL msgC 5 40 w' B w'.heap.size A n c l := by
  obtain ⟨A', c', e, hr⟩ := OwnL.of_own hl h
  simp only [Value.slice.injEq, true_and] at e
  obtain ⟨rfl, rfl⟩ := e
  exact hr

set_option maxRecDepth 100000 in
set_option maxHeartbeats 8000000 in
theorem ExactNodeGet_walk (s : NodeS) (A : Option Addr) (n c : Nat) (l : List NMsgD) (m : NMsgD) (w : World) (hl : RdL msgC 5 w w.heap.size A n c l) :
    Calls Try.prog 4 #[.agg #[.int .i64 s.me, .int .i64 s.round, .int .i64 s.step, .int .i64 s.lv, .int .i64 s.lr, .int .i64 s.vv, .int .i64 s.vr, .int .i64 s.polka, .int .i64 s.dec, .slice A n c], .agg #[.int .i64 m.k, .int .i64 m.r, .int .i64 m.v, .int .i64 m.p, .int .i64 m.f]] w fun e w' => e = .returned (.bool true) ∧ Below w.heap.size w w' := by
  obtain rfl : l.length = n := hl.1
  have hn := hl.le
  have HL := Lib.hid hl
  clear hl
  obtain ⟨r, hr⟩ : ∃ r, r = getN s l m := ⟨_, rfl⟩
  have HR := Lib.hid hr
  obtain ⟨hrl, hro⟩ := getN_len s l m
  rw [← hr] at hrl hro
  clear hr
  by_cases h6 : (1048576 : Int) < l.length
  · go_enter Try.func4, Try.ntmps4
    go_wp2_with (go_at_call 7; (refine (szNode_any _ _ _ _ _ _ hn (by decide) (by decide)).mono ?_); rw [if_pos h6]; rintro e w1 ⟨rfl, hb⟩; obtain ⟨hc, hf, hz⟩ := bcell hb; have hy := nlt (by simp at hz; omega : w.heap.size + 1 ≤ w1.heap.size))
    go_ret
    exact ⟨rfl, (by repeat (first | exact Below.refl _ _ | assumption | refine Below.drew ?_ | refine belN ?_ _ | refine Below.alloc ?_ (by first | exact Nat.le_refl _ | (simp; done) | (simp; omega) | omega) _ | refine Below.setCell ?_ (by first | exact Nat.le_refl _ | (simp; done) | (simp; omega) | omega) _ | refine Below.trans ?_ (Below.mono (by assumption) (by first | exact Nat.le_refl _ | (simp; done) | (simp; omega) | omega))))⟩
  go_enter Try.func4, Try.ntmps4
  go_wp2_with fail
  refine (szNode_any _ _ _ _ _ _ hn (by decide) (by decide)).mono ?_
  rw [if_neg (show ¬ ((1048576 : Int) < l.length) by omega)]
  rintro e w1 ⟨rfl, hb⟩
  have hpos : ¬ ((1048576 : Int) - l.length < 0) := by omega

  have hs1 : w.heap.size + 2 ≤ w1.heap.size := by have := hb.size; simpa using this
  have B1 : Hid (Below w.heap.size w w1) := Lib.hid (by repeat (first | exact Below.refl _ _ | assumption | refine Below.drew ?_ | refine belN ?_ _ | refine Below.alloc ?_ (by first | exact Nat.le_refl _ | (simp; done) | (simp; omega) | omega) _ | refine Below.setCell ?_ (by first | exact Nat.le_refl _ | (simp; done) | (simp; omega) | omega) _ | refine Below.trans ?_ (Below.mono (by assumption) (by first | exact Nat.le_refl _ | (simp; done) | (simp; omega) | omega))))
  have bA : Blk (w.alloc (.cells #[.int .i64 s.me, .int .i64 s.round, .int .i64 s.step, .int .i64 s.lv, .int .i64 s.lr, .int .i64 s.vv, .int .i64 s.vr, .int .i64 s.polka, .int .i64 s.dec, .slice A l.length c] 24)) w.heap.size 24 #[.int .i64 s.me, .int .i64 s.round, .int .i64 s.step, .int .i64 s.lv, .int .i64 s.lr, .int .i64 s.vv, .int .i64 s.vr, .int .i64 s.polka, .int .i64 s.dec, .slice A l.length c] := heap_alloc_new w _
  have bM : Blk ((w.alloc (.cells #[.int .i64 s.me, .int .i64 s.round, .int .i64 s.step, .int .i64 s.lv, .int .i64 s.lr, .int .i64 s.vv, .int .i64 s.vr, .int .i64 s.polka, .int .i64 s.dec, .slice A l.length c] 24)).alloc (.cells #[.int .i64 m.k, .int .i64 m.r, .int .i64 m.v, .int .i64 m.p, .int .i64 m.f] 38)) (w.alloc (.cells #[.int .i64 s.me, .int .i64 s.round, .int .i64 s.step, .int .i64 s.lv, .int .i64 s.lr, .int .i64 s.vv, .int .i64 s.vr, .int .i64 s.polka, .int .i64 s.dec, .slice A l.length c] 24)).heap.size 38 #[.int .i64 m.k, .int .i64 m.r, .int .i64 m.v, .int .i64 m.p, .int .i64 m.f] := heap_alloc_new _ _
  rw [World.size_alloc] at bM
  have ya1 : ∀ o, w1.cell? ⟨w.heap.size, o, none⟩ = (#[.int .i64 s.me, .int .i64 s.round, .int .i64 s.step, .int .i64 s.lv, .int .i64 s.lr, .int .i64 s.vv, .int .i64 s.vr, .int .i64 s.polka, .int .i64 s.dec, .slice A l.length c] : Array Value)[o]? := fun o => (hb.cell (p := ⟨w.heap.size, o, none⟩) (by first | (simp; done) | (simp; omega))).trans (Blk.cell (bA.below ((Below.refl _ _).alloc (Nat.le_refl _) (.cells #[.int .i64 m.k, .int .i64 m.r, .int .i64 m.v, .int .i64 m.p, .int .i64 m.f] 38)) bA.lt) o)
  have ym1 : ∀ o, w1.cell? ⟨w.heap.size + 1, o, none⟩ = (#[.int .i64 m.k, .int .i64 m.r, .int .i64 m.v, .int .i64 m.p, .int .i64 m.f] : Array Value)[o]? := fun o => (hb.cell (p := ⟨w.heap.size + 1, o, none⟩) (by first | (simp; done) | (simp; omega))).trans (Blk.cell bM o)
  clear hb bA bM
  go_upto_region 5 with fail
  go_cut [6, 7, 8] (fun sp sk sb wx => ∃ q A c B d a1 b1 a2 b2, sp = .pointer (some ⟨q, 0, none⟩) ∧ sk = .slice B r.1.o.length d ∧ sb = .bool r.2 ∧ w1.heap.size ≤ q ∧ Blk wx q 28 #[.int .i64 r.1.s.me, .int .i64 r.1.s.round, .int .i64 r.1.s.step, .int .i64 r.1.s.lv, .int .i64 r.1.s.lr, .int .i64 r.1.s.vv, .int .i64 r.1.s.vr, .int .i64 r.1.s.polka, .int .i64 r.1.s.dec, .slice A r.1.l.length c] ∧ OwnL msgC 5 40 wx a1 b1 A r.1.l.length c r.1.l ∧ OwnL msgC 5 40 wx a2 b2 B r.1.o.length d r.1.o ∧ (w1.heap.size ≤ a1 ∧ a1 ≤ b1 ∧ b1 ≤ wx.heap.size ∧ w1.heap.size ≤ a2 ∧ a2 ≤ b2 ∧ b2 ≤ wx.heap.size ∧ (b1 ≤ a2 ∨ b2 ≤ a1) ∧ (q < a1 ∨ b1 ≤ q) ∧ (q < a2 ∨ b2 ≤ q)) ∧ Below w1.heap.size w1 wx)
  case first =>
    refine wp_region_core [0, 1, 2, 3, 4, 5, 6, 7, 8, 9, 10, 11] (Below w1.heap.size w1) (fun j wa wb => match j with | 10 => BoxTurn 28 wa wb | _ => Below wa.heap.size wa wb) (fun i b w => match i with
      | 0 => b.tmps.getD 25 undef = .agg #[.int .i64 s.me, .int .i64 s.round, .int .i64 s.step, .int .i64 s.lv, .int .i64 s.lr, .int .i64 s.vv, .int .i64 s.vr, .int .i64 s.polka, .int .i64 s.dec, .slice A l.length c]
      | 1 => ∃ A2 c2, b.tmps.getD 26 undef = .agg #[.int .i64 s.me, .int .i64 s.round, .int .i64 s.step, .int .i64 s.lv, .int .i64 s.lr, .int .i64 s.vv, .int .i64 s.vr, .int .i64 s.polka, .int .i64 s.dec, .slice A2 l.length c2] ∧ OwnL msgC 5 40 w w1.heap.size w.heap.size A2 l.length c2 l
      | 2 => b.tmps.getD 27 undef = .agg #[.int .i64 m.k, .int .i64 m.r, .int .i64 m.v, .int .i64 m.p, .int .i64 m.f]
      | 3 => b.tmps.getD 28 undef = .agg #[.int .i64 m.k, .int .i64 m.r, .int .i64 m.v, .int .i64 m.p, .int .i64 m.f]
      | 4 => ∃ A c B d, b.tmps.getD 29 undef = .tuple #[.agg #[.int .i64 r.1.s.me, .int .i64 r.1.s.round, .int .i64 r.1.s.step, .int .i64 r.1.s.lv, .int .i64 r.1.s.lr, .int .i64 r.1.s.vv, .int .i64 r.1.s.vr, .int .i64 r.1.s.polka, .int .i64 r.1.s.dec, .slice A r.1.l.length c], .slice B r.1.o.length d, .bool r.2] ∧ Rows w (fun q => q < w1.heap.size) A c B d r.1
      | 5 => ∃ A c B d, b.tmps.getD 24 undef = .tuple #[.agg #[.int .i64 r.1.s.me, .int .i64 r.1.s.round, .int .i64 r.1.s.step, .int .i64 r.1.s.lv, .int .i64 r.1.s.lr, .int .i64 r.1.s.vv, .int .i64 r.1.s.vr, .int .i64 r.1.s.polka, .int .i64 r.1.s.dec, .slice A r.1.l.length c], .slice B r.1.o.length d, .bool r.2] ∧ Rows w (fun q => q < w1.heap.size) A c B d r.1
      | 6 => ∃ A c B d, b.tmps.getD 24 undef = .tuple #[.agg #[.int .i64 r.1.s.me, .int .i64 r.1.s.round, .int .i64 r.1.s.step, .int .i64 r.1.s.lv, .int .i64 r.1.s.lr, .int .i64 r.1.s.vv, .int .i64 r.1.s.vr, .int .i64 r.1.s.polka, .int .i64 r.1.s.dec, .slice A r.1.l.length c], .slice B r.1.o.length d, .bool r.2] ∧ b.tmps.getD 30 undef = .agg #[.int .i64 r.1.s.me, .int .i64 r.1.s.round, .int .i64 r.1.s.step, .int .i64 r.1.s.lv, .int .i64 r.1.s.lr, .int .i64 r.1.s.vv, .int .i64 r.1.s.vr, .int .i64 r.1.s.polka, .int .i64 r.1.s.dec, .slice A r.1.l.length c] ∧ Rows w (fun q => q < w1.heap.size) A c B d r.1
      | 7 => ∃ A c B d, b.tmps.getD 24 undef = .tuple #[.agg #[.int .i64 r.1.s.me, .int .i64 r.1.s.round, .int .i64 r.1.s.step, .int .i64 r.1.s.lv, .int .i64 r.1.s.lr, .int .i64 r.1.s.vv, .int .i64 r.1.s.vr, .int .i64 r.1.s.polka, .int .i64 r.1.s.dec, .slice A r.1.l.length c], .slice B r.1.o.length d, .bool r.2] ∧ b.tmps.getD 31 undef = .slice B r.1.o.length d ∧ Rows w (fun q => q < w1.heap.size) A c B d r.1
      | 8 => b.tmps.getD 32 undef = .bool r.2
      | 9 => ∃ q cs, b.tmps.getD 6 undef = .pointer (some ⟨q, 0, none⟩) ∧ w1.heap.size ≤ q ∧ cs.size = 10 ∧ Blk w q 28 cs
      | 10 => ∃ q A c, b.tmps.getD 6 undef = .pointer (some ⟨q, 0, none⟩) ∧ b.tmps.getD 30 undef = .agg #[.int .i64 r.1.s.me, .int .i64 r.1.s.round, .int .i64 r.1.s.step, .int .i64 r.1.s.lv, .int .i64 r.1.s.lr, .int .i64 r.1.s.vv, .int .i64 r.1.s.vr, .int .i64 r.1.s.polka, .int .i64 r.1.s.dec, .slice A r.1.l.length c] ∧ w1.heap.size ≤ q ∧ Blk w q 28 #[.int .i64 r.1.s.me, .int .i64 r.1.s.round, .int .i64 r.1.s.step, .int .i64 r.1.s.lv, .int .i64 r.1.s.lr, .int .i64 r.1.s.vv, .int .i64 r.1.s.vr, .int .i64 r.1.s.polka, .int .i64 r.1.s.dec, .slice A r.1.l.length c]
      | 11 => ∃ B d, b.tmps.getD 31 undef = .slice B r.1.o.length d ∧ b.tmps.getD 7 undef = .slice B r.1.o.length d
      | _ => True) (by kernel_rfl) (by kernel_rfl) ((Below.refl _ _).drew) ?_ ?_ ?_
    · intro b wa wb i j oj v hi hj hij hoj hdep hE h
      simp only [List.mem_cons, List.not_mem_nil, or_false] at hi hj
      rcases hj with rfl | rfl | rfl | rfl | rfl | rfl | rfl | rfl | rfl | rfl | rfl | rfl
      all_goals obtain rfl := Option.some.inj hoj
      · rcases hi with rfl | rfl | rfl | rfl | rfl | rfl | rfl | rfl | rfl | rfl | rfl | rfl
        all_goals first | exact absurd rfl hij | (simp only at hE h ⊢; first | exact getk h (by decide) | (obtain ⟨A, c, e, h⟩ := h; first | exact ⟨A, c, getk e (by decide), (h.below hE (Nat.le_refl _)).wide (Nat.le_refl _) hE.size⟩ | exact ⟨A, c, getk e (by decide), hE.row (by decide) h⟩) | (obtain ⟨A, c, B, d, e, h⟩ := h; first | exact ⟨A, c, B, d, getk e (by decide), h.below hE⟩ | exact ⟨A, c, B, d, getk e (by decide), h.turn hE⟩) | (obtain ⟨A, c, B, d, e, e2, h⟩ := h; first | exact ⟨A, c, B, d, getk e (by decide), getk e2 (by decide), h.below hE⟩ | exact ⟨A, c, B, d, getk e (by decide), getk e2 (by decide), h.turn hE⟩) | (obtain ⟨q, cs, e, h1, h2, h3⟩ := h; first | exact ⟨q, cs, getk e (by decide), h1, h2, h3.below hE h3.lt⟩ | (obtain ⟨cs', g1, g2⟩ := hE.box h3; exact ⟨q, cs', getk e (by decide), h1, g1.trans h2, g2⟩)) | (obtain ⟨B, d, e, e2⟩ := h; exact ⟨B, d, getk e (by decide), getk e2 (by decide)⟩) | (obtain ⟨q, A, c, e, e2, h1, h2⟩ := h; exact ⟨q, A, c, getk e (by decide), getk e2 (by decide), h1, h2.below hE h2.lt⟩)) | exact absurd rfl (hdep _ rfl ⟨0, .data⟩ (by simp) rfl)
      · rcases hi with rfl | rfl | rfl | rfl | rfl | rfl | rfl | rfl | rfl | rfl | rfl | rfl
        all_goals first | exact absurd rfl hij | (simp only at hE h ⊢; first | exact getk h (by decide) | (obtain ⟨A, c, e, h⟩ := h; first | exact ⟨A, c, getk e (by decide), (h.below hE (Nat.le_refl _)).wide (Nat.le_refl _) hE.size⟩ | exact ⟨A, c, getk e (by decide), hE.row (by decide) h⟩) | (obtain ⟨A, c, B, d, e, h⟩ := h; first | exact ⟨A, c, B, d, getk e (by decide), h.below hE⟩ | exact ⟨A, c, B, d, getk e (by decide), h.turn hE⟩) | (obtain ⟨A, c, B, d, e, e2, h⟩ := h; first | exact ⟨A, c, B, d, getk e (by decide), getk e2 (by decide), h.below hE⟩ | exact ⟨A, c, B, d, getk e (by decide), getk e2 (by decide), h.turn hE⟩) | (obtain ⟨q, cs, e, h1, h2, h3⟩ := h; first | exact ⟨q, cs, getk e (by decide), h1, h2, h3.below hE h3.lt⟩ | (obtain ⟨cs', g1, g2⟩ := hE.box h3; exact ⟨q, cs', getk e (by decide), h1, g1.trans h2, g2⟩)) | (obtain ⟨B, d, e, e2⟩ := h; exact ⟨B, d, getk e (by decide), getk e2 (by decide)⟩) | (obtain ⟨q, A, c, e, e2, h1, h2⟩ := h; exact ⟨q, A, c, getk e (by decide), getk e2 (by decide), h1, h2.below hE h2.lt⟩)) | exact absurd rfl (hdep _ rfl ⟨1, .data⟩ (by simp) rfl)
      · rcases hi with rfl | rfl | rfl | rfl | rfl | rfl | rfl | rfl | rfl | rfl | rfl | rfl
        all_goals first | exact absurd rfl hij | (simp only at hE h ⊢; first | exact getk h (by decide) | (obtain ⟨A, c, e, h⟩ := h; first | exact ⟨A, c, getk e (by decide), (h.below hE (Nat.le_refl _)).wide (Nat.le_refl _) hE.size⟩ | exact ⟨A, c, getk e (by decide), hE.row (by decide) h⟩) | (obtain ⟨A, c, B, d, e, h⟩ := h; first | exact ⟨A, c, B, d, getk e (by decide), h.below hE⟩ | exact ⟨A, c, B, d, getk e (by decide), h.turn hE⟩) | (obtain ⟨A, c, B, d, e, e2, h⟩ := h; first | exact ⟨A, c, B, d, getk e (by decide), getk e2 (by decide), h.below hE⟩ | exact ⟨A, c, B, d, getk e (by decide), getk e2 (by decide), h.turn hE⟩) | (obtain ⟨q, cs, e, h1, h2, h3⟩ := h; first | exact ⟨q, cs, getk e (by decide), h1, h2, h3.below hE h3.lt⟩ | (obtain ⟨cs', g1, g2⟩ := hE.box h3; exact ⟨q, cs', getk e (by decide), h1, g1.trans h2, g2⟩)) | (obtain ⟨B, d, e, e2⟩ := h; exact ⟨B, d, getk e (by decide), getk e2 (by decide)⟩) | (obtain ⟨q, A, c, e, e2, h1, h2⟩ := h; exact ⟨q, A, c, getk e (by decide), getk e2 (by decide), h1, h2.below hE h2.lt⟩)) | exact absurd rfl (hdep _ rfl ⟨2, .data⟩ (by simp) rfl)
      · rcases hi with rfl | rfl | rfl | rfl | rfl | rfl | rfl | rfl | rfl | rfl | rfl | rfl
        all_goals first | exact absurd rfl hij | (simp only at hE h ⊢; first | exact getk h (by decide) | (obtain ⟨A, c, e, h⟩ := h; first | exact ⟨A, c, getk e (by decide), (h.below hE (Nat.le_refl _)).wide (Nat.le_refl _) hE.size⟩ | exact ⟨A, c, getk e (by decide), hE.row (by decide) h⟩) | (obtain ⟨A, c, B, d, e, h⟩ := h; first | exact ⟨A, c, B, d, getk e (by decide), h.below hE⟩ | exact ⟨A, c, B, d, getk e (by decide), h.turn hE⟩) | (obtain ⟨A, c, B, d, e, e2, h⟩ := h; first | exact ⟨A, c, B, d, getk e (by decide), getk e2 (by decide), h.below hE⟩ | exact ⟨A, c, B, d, getk e (by decide), getk e2 (by decide), h.turn hE⟩) | (obtain ⟨q, cs, e, h1, h2, h3⟩ := h; first | exact ⟨q, cs, getk e (by decide), h1, h2, h3.below hE h3.lt⟩ | (obtain ⟨cs', g1, g2⟩ := hE.box h3; exact ⟨q, cs', getk e (by decide), h1, g1.trans h2, g2⟩)) | (obtain ⟨B, d, e, e2⟩ := h; exact ⟨B, d, getk e (by decide), getk e2 (by decide)⟩) | (obtain ⟨q, A, c, e, e2, h1, h2⟩ := h; exact ⟨q, A, c, getk e (by decide), getk e2 (by decide), h1, h2.below hE h2.lt⟩)) | exact absurd rfl (hdep _ rfl ⟨3, .data⟩ (by simp) rfl)
      · rcases hi with rfl | rfl | rfl | rfl | rfl | rfl | rfl | rfl | rfl | rfl | rfl | rfl
        all_goals first | exact absurd rfl hij | (simp only at hE h ⊢; first | exact getk h (by decide) | (obtain ⟨A, c, e, h⟩ := h; first | exact ⟨A, c, getk e (by decide), (h.below hE (Nat.le_refl _)).wide (Nat.le_refl _) hE.size⟩ | exact ⟨A, c, getk e (by decide), hE.row (by decide) h⟩) | (obtain ⟨A, c, B, d, e, h⟩ := h; first | exact ⟨A, c, B, d, getk e (by decide), h.below hE⟩ | exact ⟨A, c, B, d, getk e (by decide), h.turn hE⟩) | (obtain ⟨A, c, B, d, e, e2, h⟩ := h; first | exact ⟨A, c, B, d, getk e (by decide), getk e2 (by decide), h.below hE⟩ | exact ⟨A, c, B, d, getk e (by decide), getk e2 (by decide), h.turn hE⟩) | (obtain ⟨q, cs, e, h1, h2, h3⟩ := h; first | exact ⟨q, cs, getk e (by decide), h1, h2, h3.below hE h3.lt⟩ | (obtain ⟨cs', g1, g2⟩ := hE.box h3; exact ⟨q, cs', getk e (by decide), h1, g1.trans h2, g2⟩)) | (obtain ⟨B, d, e, e2⟩ := h; exact ⟨B, d, getk e (by decide), getk e2 (by decide)⟩) | (obtain ⟨q, A, c, e, e2, h1, h2⟩ := h; exact ⟨q, A, c, getk e (by decide), getk e2 (by decide), h1, h2.below hE h2.lt⟩)) | exact absurd rfl (hdep _ rfl ⟨4, .data⟩ (by simp) rfl)
      · rcases hi with rfl | rfl | rfl | rfl | rfl | rfl | rfl | rfl | rfl | rfl | rfl | rfl
        all_goals first | exact absurd rfl hij | (simp only at hE h ⊢; first | exact getk h (by decide) | (obtain ⟨A, c, e, h⟩ := h; first | exact ⟨A, c, getk e (by decide), (h.below hE (Nat.le_refl _)).wide (Nat.le_refl _) hE.size⟩ | exact ⟨A, c, getk e (by decide), hE.row (by decide) h⟩) | (obtain ⟨A, c, B, d, e, h⟩ := h; first | exact ⟨A, c, B, d, getk e (by decide), h.below hE⟩ | exact ⟨A, c, B, d, getk e (by decide), h.turn hE⟩) | (obtain ⟨A, c, B, d, e, e2, h⟩ := h; first | exact ⟨A, c, B, d, getk e (by decide), getk e2 (by decide), h.below hE⟩ | exact ⟨A, c, B, d, getk e (by decide), getk e2 (by decide), h.turn hE⟩) | (obtain ⟨q, cs, e, h1, h2, h3⟩ := h; first | exact ⟨q, cs, getk e (by decide), h1, h2, h3.below hE h3.lt⟩ | (obtain ⟨cs', g1, g2⟩ := hE.box h3; exact ⟨q, cs', getk e (by decide), h1, g1.trans h2, g2⟩)) | (obtain ⟨B, d, e, e2⟩ := h; exact ⟨B, d, getk e (by decide), getk e2 (by decide)⟩) | (obtain ⟨q, A, c, e, e2, h1, h2⟩ := h; exact ⟨q, A, c, getk e (by decide), getk e2 (by decide), h1, h2.below hE h2.lt⟩)) | exact absurd rfl (hdep _ rfl ⟨5, .data⟩ (by simp) rfl)
      · rcases hi with rfl | rfl | rfl | rfl | rfl | rfl | rfl | rfl | rfl | rfl | rfl | rfl
        all_goals first | exact absurd rfl hij | (simp only at hE h ⊢; first | exact getk h (by decide) | (obtain ⟨A, c, e, h⟩ := h; first | exact ⟨A, c, getk e (by decide), (h.below hE (Nat.le_refl _)).wide (Nat.le_refl _) hE.size⟩ | exact ⟨A, c, getk e (by decide), hE.row (by decide) h⟩) | (obtain ⟨A, c, B, d, e, h⟩ := h; first | exact ⟨A, c, B, d, getk e (by decide), h.below hE⟩ | exact ⟨A, c, B, d, getk e (by decide), h.turn hE⟩) | (obtain ⟨A, c, B, d, e, e2, h⟩ := h; first | exact ⟨A, c, B, d, getk e (by decide), getk e2 (by decide), h.below hE⟩ | exact ⟨A, c, B, d, getk e (by decide), getk e2 (by decide), h.turn hE⟩) | (obtain ⟨q, cs, e, h1, h2, h3⟩ := h; first | exact ⟨q, cs, getk e (by decide), h1, h2, h3.below hE h3.lt⟩ | (obtain ⟨cs', g1, g2⟩ := hE.box h3; exact ⟨q, cs', getk e (by decide), h1, g1.trans h2, g2⟩)) | (obtain ⟨B, d, e, e2⟩ := h; exact ⟨B, d, getk e (by decide), getk e2 (by decide)⟩) | (obtain ⟨q, A, c, e, e2, h1, h2⟩ := h; exact ⟨q, A, c, getk e (by decide), getk e2 (by decide), h1, h2.below hE h2.lt⟩)) | exact absurd rfl (hdep _ rfl ⟨6, .data⟩ (by simp) rfl)
      · rcases hi with rfl | rfl | rfl | rfl | rfl | rfl | rfl | rfl | rfl | rfl | rfl | rfl
        all_goals first | exact absurd rfl hij | (simp only at hE h ⊢; first | exact getk h (by decide) | (obtain ⟨A, c, e, h⟩ := h; first | exact ⟨A, c, getk e (by decide), (h.below hE (Nat.le_refl _)).wide (Nat.le_refl _) hE.size⟩ | exact ⟨A, c, getk e (by decide), hE.row (by decide) h⟩) | (obtain ⟨A, c, B, d, e, h⟩ := h; first | exact ⟨A, c, B, d, getk e (by decide), h.below hE⟩ | exact ⟨A, c, B, d, getk e (by decide), h.turn hE⟩) | (obtain ⟨A, c, B, d, e, e2, h⟩ := h; first | exact ⟨A, c, B, d, getk e (by decide), getk e2 (by decide), h.below hE⟩ | exact ⟨A, c, B, d, getk e (by decide), getk e2 (by decide), h.turn hE⟩) | (obtain ⟨q, cs, e, h1, h2, h3⟩ := h; first | exact ⟨q, cs, getk e (by decide), h1, h2, h3.below hE h3.lt⟩ | (obtain ⟨cs', g1, g2⟩ := hE.box h3; exact ⟨q, cs', getk e (by decide), h1, g1.trans h2, g2⟩)) | (obtain ⟨B, d, e, e2⟩ := h; exact ⟨B, d, getk e (by decide), getk e2 (by decide)⟩) | (obtain ⟨q, A, c, e, e2, h1, h2⟩ := h; exact ⟨q, A, c, getk e (by decide), getk e2 (by decide), h1, h2.below hE h2.lt⟩)) | exact absurd rfl (hdep _ rfl ⟨7, .data⟩ (by simp) rfl)
      · rcases hi with rfl | rfl | rfl | rfl | rfl | rfl | rfl | rfl | rfl | rfl | rfl | rfl
        all_goals first | exact absurd rfl hij | (simp only at hE h ⊢; first | exact getk h (by decide) | (obtain ⟨A, c, e, h⟩ := h; first | exact ⟨A, c, getk e (by decide), (h.below hE (Nat.le_refl _)).wide (Nat.le_refl _) hE.size⟩ | exact ⟨A, c, getk e (by decide), hE.row (by decide) h⟩) | (obtain ⟨A, c, B, d, e, h⟩ := h; first | exact ⟨A, c, B, d, getk e (by decide), h.below hE⟩ | exact ⟨A, c, B, d, getk e (by decide), h.turn hE⟩) | (obtain ⟨A, c, B, d, e, e2, h⟩ := h; first | exact ⟨A, c, B, d, getk e (by decide), getk e2 (by decide), h.below hE⟩ | exact ⟨A, c, B, d, getk e (by decide), getk e2 (by decide), h.turn hE⟩) | (obtain ⟨q, cs, e, h1, h2, h3⟩ := h; first | exact ⟨q, cs, getk e (by decide), h1, h2, h3.below hE h3.lt⟩ | (obtain ⟨cs', g1, g2⟩ := hE.box h3; exact ⟨q, cs', getk e (by decide), h1, g1.trans h2, g2⟩)) | (obtain ⟨B, d, e, e2⟩ := h; exact ⟨B, d, getk e (by decide), getk e2 (by decide)⟩) | (obtain ⟨q, A, c, e, e2, h1, h2⟩ := h; exact ⟨q, A, c, getk e (by decide), getk e2 (by decide), h1, h2.below hE h2.lt⟩)) | exact absurd rfl (hdep _ rfl ⟨8, .data⟩ (by simp) rfl)
      · rcases hi with rfl | rfl | rfl | rfl | rfl | rfl | rfl | rfl | rfl | rfl | rfl | rfl
        all_goals first | exact absurd rfl hij | (simp only at hE h ⊢; first | exact getk h (by decide) | (obtain ⟨A, c, e, h⟩ := h; first | exact ⟨A, c, getk e (by decide), (h.below hE (Nat.le_refl _)).wide (Nat.le_refl _) hE.size⟩ | exact ⟨A, c, getk e (by decide), hE.row (by decide) h⟩) | (obtain ⟨A, c, B, d, e, h⟩ := h; first | exact ⟨A, c, B, d, getk e (by decide), h.below hE⟩ | exact ⟨A, c, B, d, getk e (by decide), h.turn hE⟩) | (obtain ⟨A, c, B, d, e, e2, h⟩ := h; first | exact ⟨A, c, B, d, getk e (by decide), getk e2 (by decide), h.below hE⟩ | exact ⟨A, c, B, d, getk e (by decide), getk e2 (by decide), h.turn hE⟩) | (obtain ⟨q, cs, e, h1, h2, h3⟩ := h; first | exact ⟨q, cs, getk e (by decide), h1, h2, h3.below hE h3.lt⟩ | (obtain ⟨cs', g1, g2⟩ := hE.box h3; exact ⟨q, cs', getk e (by decide), h1, g1.trans h2, g2⟩)) | (obtain ⟨B, d, e, e2⟩ := h; exact ⟨B, d, getk e (by decide), getk e2 (by decide)⟩) | (obtain ⟨q, A, c, e, e2, h1, h2⟩ := h; exact ⟨q, A, c, getk e (by decide), getk e2 (by decide), h1, h2.below hE h2.lt⟩)) | exact absurd rfl (hdep _ rfl ⟨9, .data⟩ (by simp) rfl)
      · rcases hi with rfl | rfl | rfl | rfl | rfl | rfl | rfl | rfl | rfl | rfl | rfl | rfl
        all_goals first | exact absurd rfl hij | (simp only at hE h ⊢; first | exact getk h (by decide) | (obtain ⟨A, c, e, h⟩ := h; first | exact ⟨A, c, getk e (by decide), (h.below hE (Nat.le_refl _)).wide (Nat.le_refl _) hE.size⟩ | exact ⟨A, c, getk e (by decide), hE.row (by decide) h⟩) | (obtain ⟨A, c, B, d, e, h⟩ := h; first | exact ⟨A, c, B, d, getk e (by decide), h.below hE⟩ | exact ⟨A, c, B, d, getk e (by decide), h.turn hE⟩) | (obtain ⟨A, c, B, d, e, e2, h⟩ := h; first | exact ⟨A, c, B, d, getk e (by decide), getk e2 (by decide), h.below hE⟩ | exact ⟨A, c, B, d, getk e (by decide), getk e2 (by decide), h.turn hE⟩) | (obtain ⟨q, cs, e, h1, h2, h3⟩ := h; first | exact ⟨q, cs, getk e (by decide), h1, h2, h3.below hE h3.lt⟩ | (obtain ⟨cs', g1, g2⟩ := hE.box h3; exact ⟨q, cs', getk e (by decide), h1, g1.trans h2, g2⟩)) | (obtain ⟨B, d, e, e2⟩ := h; exact ⟨B, d, getk e (by decide), getk e2 (by decide)⟩) | (obtain ⟨q, A, c, e, e2, h1, h2⟩ := h; exact ⟨q, A, c, getk e (by decide), getk e2 (by decide), h1, h2.below hE h2.lt⟩)) | exact absurd rfl (hdep _ rfl ⟨10, .data⟩ (by simp) rfl)
      · rcases hi with rfl | rfl | rfl | rfl | rfl | rfl | rfl | rfl | rfl | rfl | rfl | rfl
        all_goals first | exact absurd rfl hij | (simp only at hE h ⊢; first | exact getk h (by decide) | (obtain ⟨A, c, e, h⟩ := h; first | exact ⟨A, c, getk e (by decide), (h.below hE (Nat.le_refl _)).wide (Nat.le_refl _) hE.size⟩ | exact ⟨A, c, getk e (by decide), hE.row (by decide) h⟩) | (obtain ⟨A, c, B, d, e, h⟩ := h; first | exact ⟨A, c, B, d, getk e (by decide), h.below hE⟩ | exact ⟨A, c, B, d, getk e (by decide), h.turn hE⟩) | (obtain ⟨A, c, B, d, e, e2, h⟩ := h; first | exact ⟨A, c, B, d, getk e (by decide), getk e2 (by decide), h.below hE⟩ | exact ⟨A, c, B, d, getk e (by decide), getk e2 (by decide), h.turn hE⟩) | (obtain ⟨q, cs, e, h1, h2, h3⟩ := h; first | exact ⟨q, cs, getk e (by decide), h1, h2, h3.below hE h3.lt⟩ | (obtain ⟨cs', g1, g2⟩ := hE.box h3; exact ⟨q, cs', getk e (by decide), h1, g1.trans h2, g2⟩)) | (obtain ⟨B, d, e, e2⟩ := h; exact ⟨B, d, getk e (by decide), getk e2 (by decide)⟩) | (obtain ⟨q, A, c, e, e2, h1, h2⟩ := h; exact ⟨q, A, c, getk e (by decide), getk e2 (by decide), h1, h2.below hE h2.lt⟩)) | exact absurd rfl (hdep _ rfl ⟨11, .data⟩ (by simp) rfl)
    · intro j o hj ho a' w' hC hsame hdep
      have hz : w1.heap.size ≤ w'.heap.size := hC.size
      simp only [List.mem_cons, List.not_mem_nil, or_false] at hj
      rcases hj with rfl | rfl | rfl | rfl | rfl | rfl | rfl | rfl | rfl | rfl | rfl | rfl
      all_goals obtain rfl := Option.some.inj ho
      · have hs : a'.tmps.getD 2 undef = .pointer (some ⟨w.heap.size, 0, none⟩) := hsame 2 (by rfl)
        have zz : ∀ o, w'.cell? ⟨w.heap.size, o, none⟩ = _ := fun o => (hC.cell (p := ⟨w.heap.size, o, none⟩) (by show w.heap.size < w1.heap.size; omega)).trans (ya1 o)
        refine wp_val (w2 := w') (.agg #[.int .i64 s.me, .int .i64 s.round, .int .i64 s.step, .int .i64 s.lv, .int .i64 s.lr, .int .i64 s.vv, .int .i64 s.vr, .int .i64 s.polka, .int .i64 s.dec, .slice A l.length c]) (fun K hK => ?_) ⟨_, rfl, hC, Below.refl _ _, fun b hb _ => hb 25 rfl⟩
        clear hsame hdep
        unfold Oper.wp
        simp [execOp, Act.eval, hs, go_sem, zz]
        exact hK
      · have e1 : a'.tmps.getD 25 undef = .agg #[.int .i64 s.me, .int .i64 s.round, .int .i64 s.step, .int .i64 s.lv, .int .i64 s.lr, .int .i64 s.vv, .int .i64 s.vr, .int .i64 s.polka, .int .i64 s.dec, .slice A l.length c] := hdep ⟨0, .data⟩ (by simp) rfl
        have hr : RdL msgC 5 w' w'.heap.size A l.length c l := (((HL.out.below B1.out (Nat.le_refl _)).more B1.out.size).below hC (Nat.le_refl _)).more hz
        refine wp_call (fun u w2 => ∃ A2 c2, u = .agg #[.int .i64 s.me, .int .i64 s.round, .int .i64 s.step, .int .i64 s.lv, .int .i64 s.lr, .int .i64 s.vv, .int .i64 s.vr, .int .i64 s.polka, .int .i64 s.dec, .slice A2 l.length c2] ∧ OwnL msgC 5 40 w2 w'.heap.size w2.heap.size A2 l.length c2 l ∧ Below w'.heap.size w' w2) (fun K hK => ?_) ?_
        · clear hsame hdep
          unfold Oper.wp
          simp [Act.eval, e1, go_sem]
          refine (toNode_any s A l.length c l _ hr (by omega)).mono ?_
          rintro e w3 ⟨A7, c7, rfl, ho3, hb3⟩
          exact hK _ _ ⟨A7, c7, rfl, own_row ho3 hr.1, hb3⟩
        · rintro u w3 ⟨A7, c7, rfl, ho3, hb3⟩
          exact ⟨_, rfl, hC.trans (hb3.mono hz), hb3, fun b hb _ => ⟨A7, c7, hb 26 rfl, ho3.wide hz (Nat.le_refl _)⟩⟩
      · have hs : a'.tmps.getD 3 undef = .pointer (some ⟨w.heap.size + 1, 0, none⟩) := hsame 3 (by rfl)
        have zz : ∀ o, w'.cell? ⟨w.heap.size + 1, o, none⟩ = _ := fun o => (hC.cell (p := ⟨w.heap.size + 1, o, none⟩) (by show w.heap.size + 1 < w1.heap.size; omega)).trans (ym1 o)
        refine wp_val (w2 := w') (.agg #[.int .i64 m.k, .int .i64 m.r, .int .i64 m.v, .int .i64 m.p, .int .i64 m.f]) (fun K hK => ?_) ⟨_, rfl, hC, Below.refl _ _, fun b hb _ => hb 27 rfl⟩
        clear hsame hdep
        unfold Oper.wp
        simp [execOp, Act.eval, hs, go_sem, zz]
        exact hK
      · have e1 : a'.tmps.getD 27 undef = .agg #[.int .i64 m.k, .int .i64 m.r, .int .i64 m.v, .int .i64 m.p, .int .i64 m.f] := hdep ⟨2, .data⟩ (by simp) rfl
        refine wp_call (fun u w2 => u = .agg #[.int .i64 m.k, .int .i64 m.r, .int .i64 m.v, .int .i64 m.p, .int .i64 m.f] ∧ Below w'.heap.size w' w2) (fun K hK => ?_) ?_
        · clear hsame hdep
          unfold Oper.wp
          simp [Act.eval, e1, go_sem]
          refine (toNMsg_any m.k m.r m.v m.p m.f _).mono ?_
          rintro e w3 ⟨rfl, hb3⟩
          exact hK _ _ ⟨rfl, hb3⟩
        · rintro u w3 ⟨rfl, hb3⟩
          exact ⟨_, rfl, hC.trans (hb3.mono hz), hb3, fun b hb _ => hb 28 rfl⟩
      · obtain ⟨A6, c6, e1, ho⟩ := hdep ⟨1, .data⟩ (by simp) rfl
        have hr : RdL msgC 5 w' w'.heap.size A6 l.length c6 l := ho.rd msgC_len
        have e2 : a'.tmps.getD 28 undef = .agg #[.int .i64 m.k, .int .i64 m.r, .int .i64 m.v, .int .i64 m.p, .int .i64 m.f] := hdep ⟨3, .data⟩ (by simp) rfl
        refine wp_call (fun u w2 => ∃ A c B d, u = .tuple #[.agg #[.int .i64 r.1.s.me, .int .i64 r.1.s.round, .int .i64 r.1.s.step, .int .i64 r.1.s.lv, .int .i64 r.1.s.lr, .int .i64 r.1.s.vv, .int .i64 r.1.s.vr, .int .i64 r.1.s.polka, .int .i64 r.1.s.dec, .slice A r.1.l.length c], .slice B r.1.o.length d, .bool r.2] ∧ Rows w2 (fun q => q < w1.heap.size) A c B d r.1 ∧ Below w'.heap.size w' w2) (fun K hK => ?_) ?_
        · clear hsame hdep
          unfold Oper.wp
          simp [Act.eval, e1, e2, go_sem]
          refine (sNodeGet_any s A6 c6 l m _ hr).mono ?_
          rintro e w3 ⟨A7, c7, B7, d7, he, hrr, hkk⟩
          rw [← HR.out] at he hrr
          subst he
          exact hK _ _ ⟨A7, c7, B7, d7, rfl, hrr.mono fun q hq => Nat.lt_of_lt_of_le hq hz, hkk.below fun q hq => hq⟩
        · rintro u w3 ⟨A7, c7, B7, d7, rfl, hrr, hb3⟩
          exact ⟨_, rfl, hC.trans (hb3.mono hz), hb3, fun b hb _ => ⟨A7, c7, B7, d7, hb 29 rfl, hrr⟩⟩
      · obtain ⟨A7, c7, B7, d7, e1, hrr⟩ := hdep ⟨4, .data⟩ (by simp) rfl
        refine wp_val (w2 := w') (.tuple #[.agg #[.int .i64 r.1.s.me, .int .i64 r.1.s.round, .int .i64 r.1.s.step, .int .i64 r.1.s.lv, .int .i64 r.1.s.lr, .int .i64 r.1.s.vv, .int .i64 r.1.s.vr, .int .i64 r.1.s.polka, .int .i64 r.1.s.dec, .slice A7 r.1.l.length c7], .slice B7 r.1.o.length d7, .bool r.2]) (fun K hK => ?_) ⟨_, rfl, hC, Below.refl _ _, fun b hb _ => ⟨A7, c7, B7, d7, hb 24 rfl, hrr⟩⟩
        clear hsame hdep
        unfold Oper.wp
        simp [execOp, Act.eval, e1, go_sem]
        exact hK
      · obtain ⟨A7, c7, B7, d7, e1, hrr⟩ := hdep ⟨5, .data⟩ (by simp) rfl
        refine wp_val (w2 := w') (.agg #[.int .i64 r.1.s.me, .int .i64 r.1.s.round, .int .i64 r.1.s.step, .int .i64 r.1.s.lv, .int .i64 r.1.s.lr, .int .i64 r.1.s.vv, .int .i64 r.1.s.vr, .int .i64 r.1.s.polka, .int .i64 r.1.s.dec, .slice A7 r.1.l.length c7]) (fun K hK => ?_) ⟨_, rfl, hC, Below.refl _ _, fun b hb hb2 => ⟨A7, c7, B7, d7, (hb2 24 (by intro d h; cases h; decide)).trans e1, hb 30 rfl, hrr⟩⟩
        clear hsame hdep
        unfold Oper.wp
        simp [execOp, Act.eval, e1, go_sem]
        exact hK
      · obtain ⟨A7, c7, B7, d7, e1, hrr⟩ := hdep ⟨5, .data⟩ (by simp) rfl
        refine wp_val (w2 := w') (.slice B7 r.1.o.length d7) (fun K hK => ?_) ⟨_, rfl, hC, Below.refl _ _, fun b hb hb2 => ⟨A7, c7, B7, d7, (hb2 24 (by intro d h; cases h; decide)).trans e1, hb 31 rfl, hrr⟩⟩
        clear hsame hdep
        unfold Oper.wp
        simp [execOp, Act.eval, e1, go_sem]
        exact hK
      · obtain ⟨A7, c7, B7, d7, e1, hrr⟩ := hdep ⟨5, .data⟩ (by simp) rfl
        refine wp_val (w2 := w') (.bool r.2) (fun K hK => ?_) ⟨_, rfl, hC, Below.refl _ _, fun b hb hb2 => hb 32 rfl⟩
        clear hsame hdep
        unfold Oper.wp
        simp [execOp, Act.eval, e1, go_sem]
        exact hK
      · refine wp_val (w2 := w'.alloc (.cells #[.int .i64 0, .int .i64 0, .int .i64 0, .int .i64 0, .int .i64 0, .int .i64 0, .int .i64 0, .int .i64 0, .int .i64 0, .slice none 0 0] 28)) (.pointer (some ⟨w'.heap.size, 0, none⟩)) (fun K hK => ?_) ⟨_, rfl, hC.alloc hz _, (Below.refl _ _).alloc (Nat.le_refl _) _, fun b hb _ => ⟨w'.heap.size, _, hb 6 rfl, hz, rfl, heap_alloc_new w' _⟩⟩
        clear hsame hdep
        unfold Oper.wp
        simp [execOp, go_sem]
        exact hK
      · obtain ⟨q0, cs0, e1, hq0, hsz, hblk⟩ := hdep ⟨9, .data⟩ (by simp) rfl
        obtain ⟨A7, c7, B7, d7, e3, e2, hrr⟩ := hdep ⟨6, .data⟩ (by simp) rfl
        clear e3 hrr
        obtain ⟨lc⟩ := cs0
        obtain ⟨k0, k1, k2, k3, k4, k5, k6, k7, k8, k9, rfl⟩ := list10 (l := lc) (by simpa using hsz)
        have f0 : w'.cell? ⟨q0, 0, none⟩ = some k0 := by rw [hblk.cell]; rfl
        have f1 : w'.cell? ⟨q0, 1, none⟩ = some k1 := by rw [hblk.cell]; rfl
        have f2 : w'.cell? ⟨q0, 2, none⟩ = some k2 := by rw [hblk.cell]; rfl
        have f3 : w'.cell? ⟨q0, 3, none⟩ = some k3 := by rw [hblk.cell]; rfl
        have f4 : w'.cell? ⟨q0, 4, none⟩ = some k4 := by rw [hblk.cell]; rfl
        have f5 : w'.cell? ⟨q0, 5, none⟩ = some k5 := by rw [hblk.cell]; rfl
        have f6 : w'.cell? ⟨q0, 6, none⟩ = some k6 := by rw [hblk.cell]; rfl
        have f7 : w'.cell? ⟨q0, 7, none⟩ = some k7 := by rw [hblk.cell]; rfl
        have f8 : w'.cell? ⟨q0, 8, none⟩ = some k8 := by rw [hblk.cell]; rfl
        have f9 : w'.cell? ⟨q0, 9, none⟩ = some k9 := by rw [hblk.cell]; rfl
        have ff := hblk.frozen
        obtain ⟨w9, hw9⟩ : ∃ z, z = ((((((((((w'.setCell ⟨q0, 0, none⟩ (.int .i64 r.1.s.me)).setCell ⟨q0, 1, none⟩ (.int .i64 r.1.s.round)).setCell ⟨q0, 2, none⟩ (.int .i64 r.1.s.step)).setCell ⟨q0, 3, none⟩ (.int .i64 r.1.s.lv)).setCell ⟨q0, 4, none⟩ (.int .i64 r.1.s.lr)).setCell ⟨q0, 5, none⟩ (.int .i64 r.1.s.vv)).setCell ⟨q0, 6, none⟩ (.int .i64 r.1.s.vr)).setCell ⟨q0, 7, none⟩ (.int .i64 r.1.s.polka)).setCell ⟨q0, 8, none⟩ (.int .i64 r.1.s.dec)).setCell ⟨q0, 9, none⟩ (.slice A7 r.1.l.length c7)) := ⟨_, rfl⟩
        have hchg : Chg q0 (q0 + 1) w' w9 := by rw [hw9]; (repeat (first | with_reducible refine Chg.setCell ?_ (by first | exact Nat.le_refl _ | (simp; done) | (simp; omega)) (by first | (simp; done) | (simp; omega)) _ | with_reducible refine Chg.alloc ?_ _ | with_reducible refine Chg.drew ?_)); (with_reducible exact Chg.refl _ _ _)
        have hblk2 : Blk w9 q0 28 #[.int .i64 r.1.s.me, .int .i64 r.1.s.round, .int .i64 r.1.s.step, .int .i64 r.1.s.lv, .int .i64 r.1.s.lr, .int .i64 r.1.s.vv, .int .i64 r.1.s.vr, .int .i64 r.1.s.polka, .int .i64 r.1.s.dec, .slice A7 r.1.l.length c7] := by
          rw [hw9]
          have hb := ((((((((((hblk.set_ 0 (.int .i64 r.1.s.me)).set_ 1 (.int .i64 r.1.s.round)).set_ 2 (.int .i64 r.1.s.step)).set_ 3 (.int .i64 r.1.s.lv)).set_ 4 (.int .i64 r.1.s.lr)).set_ 5 (.int .i64 r.1.s.vv)).set_ 6 (.int .i64 r.1.s.vr)).set_ 7 (.int .i64 r.1.s.polka)).set_ 8 (.int .i64 r.1.s.dec)).set_ 9 (.slice A7 r.1.l.length c7))
          simp only [List.setIfInBounds_toArray, List.set_cons_zero, List.set_cons_succ] at hb
          exact hb
        have hturn := BoxTurn.of_blk hblk hblk2 rfl hchg
        have hcls := hC.trans (hchg.below hq0 hz)
        refine wp_val (w2 := w9) undef (fun K hK => ?_) ⟨_, rfl, hcls, hturn, fun b _ hb => ⟨q0, A7, c7, (hb 6 (by intro d h; cases h)).trans e1, (hb 30 (by intro d h; cases h)).trans e2, hq0, hblk2⟩⟩
        rw [hw9] at hK
        clear hsame hdep hchg hblk2 hturn hcls hw9
        unfold Oper.wp
        simp [execOp, Act.eval, e1, e2, go_sem, f0, f1, f2, f3, f4, f5, f6, f7, f8, f9, ff]
        exact hK
      · obtain ⟨A7, c7, B7, d7, e1, e2, hrr⟩ := hdep ⟨7, .data⟩ (by simp) rfl
        clear e1 hrr
        refine wp_val (w2 := w') (.slice B7 r.1.o.length d7) (fun K hK => ?_) ⟨_, rfl, hC, Below.refl _ _, fun b hb hb2 => ⟨B7, d7, (hb2 31 (by intro d h; cases h; decide)).trans e2, hb 7 rfl⟩⟩
        clear hsame hdep
        unfold Oper.wp
        simp [execOp, Act.eval, e2, go_sem]
        exact hK
    · intro a' w' hC ha hP
      obtain ⟨q0, A7, c7, e1, f1, hq0, hblk⟩ := hP 10 (by simp)
      obtain ⟨A8, c8, B8, d8, t1, f2, hrr⟩ := hP 6 (by simp)
      obtain ⟨A9, c9, B9, d9, t2, e3, _⟩ := hP 7 (by simp)
      have e4 : a'.tmps.getD 32 undef = .bool r.2 := hP 8 (by simp)
      obtain ⟨B10, d10, e5, e6⟩ := hP 11 (by simp)
      clear hP
      have ex := f1.symm.trans f2
      simp only [Value.agg.injEq, Array.mk.injEq, List.cons.injEq, Value.slice.injEq, true_and, and_true] at ex
      obtain ⟨rfl, rfl⟩ := ex
      have ey := t1.symm.trans t2
      simp only [Value.tuple.injEq, Value.agg.injEq, Array.mk.injEq, List.cons.injEq, Value.slice.injEq, true_and, and_true] at ey
      obtain ⟨⟨rfl, rfl⟩, rfl, rfl⟩ := ey
      clear f1 f2 t1 t2
      have ez := e3.symm.trans e5
      simp only [Value.slice.injEq, true_and] at ez
      obtain ⟨rfl, rfl⟩ := ez
      clear e5
      simp only [coreOps, List.filterMap_cons, List.filterMap_nil, List.getElem?_cons_zero, List.getElem?_cons_succ, fillA, slotOf, Act.put, e1, e3, e4, e6] at ha
      generalize a'.tmps.getD 25 undef = u25 at ha
      generalize a'.tmps.getD 26 undef = u26 at ha
      generalize a'.tmps.getD 27 undef = u27 at ha
      generalize a'.tmps.getD 28 undef = u28 at ha
      generalize a'.tmps.getD 29 undef = u29 at ha
      generalize a'.tmps.getD 24 undef = u24 at ha
      generalize a'.tmps.getD 30 undef = u30 at ha
      subst ha
      show wpAny _ _ _ _ 1 _ _ _
      refine wpAny_ready (rs := [12]) (by kernel_rfl) (by simp) ?_
      refine AllReady.cons rfl (fun K hK => ?_) AllReady.nil
      go_simp
      refine hK _ _ ?_
      clear hK K
      refine wpAny_done (by kernel_rfl) ?_ _
      go_wp2_with fail
      go_meet
      obtain ⟨a1, b1, a2, b2, o1, o2, p1, p2, p3, p4, p5, p6, p7⟩ := hrr.split hC.size
      obtain ⟨x1, y1, o3, s1, s2, s3, s4⟩ := o1.apart hblk (by decide) p2
      obtain ⟨x2, y2, o4, s5, s6, s7, s8⟩ := o2.apart hblk (by decide) p5
      exact ⟨q0, A7, c7, B8, d8, x1, y1, x2, y2, rfl, rfl, rfl, hq0, hblk, o3, o4, by omega, hC⟩
  case rest =>
  obtain ⟨q3, A3, c3, D3, d3, a13, b13, a23, b23, rfl, rfl, rfl, hq3, hblk, p1, p2, hint3, hb⟩ := hcut
  obtain ⟨h31, h32, h33, h34, h35, h36, h37, h38, h39⟩ := hint3
  obtain ⟨w3, hw7⟩ : ∃ q, q = wc := ⟨_, rfl⟩
  subst hw7
  have C : Chg 0 0 w1 w3 := ⟨hb.os, hb.tape, hb.output, hb.size, fun k hk _ => hb.block k hk⟩
  clear hb
  have P1 := Lib.hid p1
  have P2 := Lib.hid p2
  clear p1 p2
  have yn : ∀ o, w3.cell? ⟨q3, o, none⟩ = (#[.int .i64 r.1.s.me, .int .i64 r.1.s.round, .int .i64 r.1.s.step, .int .i64 r.1.s.lv, .int .i64 r.1.s.lr, .int .i64 r.1.s.vv, .int .i64 r.1.s.vr, .int .i64 r.1.s.polka, .int .i64 r.1.s.dec, .slice A3 r.1.l.length c3] : Array Value)[o]? := fun o => hblk.cell o
  have hl3 := hblk.lt
  clear hblk
  have Yh := yn
  clear yn
  have hs2 := C.size
  have B2 : Hid (Below w.heap.size w w3) := Lib.hid (B1.out.trans (C.under (B := w.heap.size) (by omega) (by omega)))
  clear B1
  have ym2 : ∀ o, w3.cell? ⟨w.heap.size + 1, o, none⟩ = _ := fun o => (C.cell (k := w.heap.size + 1) (by omega) (by omega)).trans (ym1 o)
  clear ym1
  have ya2 : ∀ o, w3.cell? ⟨w.heap.size, o, none⟩ = _ := fun o => (C.cell (k := w.heap.size) (by omega) (by omega)).trans (ya1 o)
  clear ya1
  clear C
  have yh2 := Yh
  clear Yh
  have O3l2 := P1
  have O3o2 := P2
  clear P1 P2
  go_wp2_with fail
  refine (toNode_any s A l.length c l _ ((HL.out.below B2.out (Nat.le_refl _)).more B2.out.size) (by omega)).mono ?_
  rintro e w4 ⟨A4, c4, rfl, ho, hb⟩
  have C : Chg 0 0 w3 w4 := by exact Chg.of_below hb
  have hq := own_row ho HL.out.1
  have HQ := Lib.hid hq
  clear ho hb hq
  have hs3 := C.size
  have B3 : Hid (Below w.heap.size w w4) := Lib.hid (B2.out.trans (C.under (B := w.heap.size) (by omega) (by omega)))
  clear B2
  have ym3 : ∀ o, w4.cell? ⟨w.heap.size + 1, o, none⟩ = _ := fun o => (C.cell (k := w.heap.size + 1) (by omega) (by omega)).trans (ym2 o)
  clear ym2
  have ya3 : ∀ o, w4.cell? ⟨w.heap.size, o, none⟩ = _ := fun o => (C.cell (k := w.heap.size) (by omega) (by omega)).trans (ya2 o)
  clear ya2
  have yh3 : ∀ o, w4.cell? ⟨q3, o, none⟩ = _ := fun o => (C.cell (k := q3) (by omega) (by omega)).trans (yh2 o)
  clear yh2
  have O3l3 := Lib.hid (O3l2.out.chg C (by omega))
  clear O3l2
  have O3o3 := Lib.hid (O3o2.out.chg C (by omega))
  clear O3o2
  clear C
  have O43 := HQ
  clear HQ
  go_upto_region 7 with fail
  obtain ⟨w4b, hnw4b⟩ : ∃ q, q = w4.alloc (.cells #[.int .i64 s.me, .int .i64 s.round, .int .i64 s.step, .int .i64 s.lv, .int .i64 s.lr, .int .i64 s.vv, .int .i64 s.vr, .int .i64 s.polka, .int .i64 s.dec, .slice A4 l.length c4] 28) := ⟨_, rfl⟩
  rw [← hnw4b]
  have C : Chg 0 0 w4 w4b := by rw [hnw4b]; exact (Chg.refl _ _ _).alloc _
  have hzw4b : w4b.heap.size = w4.heap.size + 1 := by rw [hnw4b]; simp
  have yn : ∀ o, w4b.cell? ⟨w4.heap.size, o, none⟩ = (#[.int .i64 s.me, .int .i64 s.round, .int .i64 s.step, .int .i64 s.lv, .int .i64 s.lr, .int .i64 s.vv, .int .i64 s.vr, .int .i64 s.polka, .int .i64 s.dec, .slice A4 l.length c4] : Array Value)[o]? := fun o => by rw [hnw4b]; exact Blk.cell (show Blk (w4.alloc (.cells #[.int .i64 s.me, .int .i64 s.round, .int .i64 s.step, .int .i64 s.lv, .int .i64 s.lr, .int .i64 s.vv, .int .i64 s.vr, .int .i64 s.polka, .int .i64 s.dec, .slice A4 l.length c4] 28)) w4.heap.size 28 #[.int .i64 s.me, .int .i64 s.round, .int .i64 s.step, .int .i64 s.lv, .int .i64 s.lr, .int .i64 s.vv, .int .i64 s.vr, .int .i64 s.polka, .int .i64 s.dec, .slice A4 l.length c4] from heap_alloc_new w4 _) o
  clear hnw4b
  have hs4 := C.size
  have B4 : Hid (Below w.heap.size w w4b) := Lib.hid (B3.out.trans (C.under (B := w.heap.size) (by omega) (by omega)))
  clear B3
  have ym4 : ∀ o, w4b.cell? ⟨w.heap.size + 1, o, none⟩ = _ := fun o => (C.cell (k := w.heap.size + 1) (by omega) (by omega)).trans (ym3 o)
  clear ym3
  have ya4 : ∀ o, w4b.cell? ⟨w.heap.size, o, none⟩ = _ := fun o => (C.cell (k := w.heap.size) (by omega) (by omega)).trans (ya3 o)
  clear ya3
  have yh4 : ∀ o, w4b.cell? ⟨q3, o, none⟩ = _ := fun o => (C.cell (k := q3) (by omega) (by omega)).trans (yh3 o)
  clear yh3
  have O3l4 := Lib.hid (O3l3.out.chg C (by omega))
  clear O3l3
  have O3o4 := Lib.hid (O3o3.out.chg C (by omega))
  clear O3o3
  have O44 := Lib.hid (O43.out.chg C (by omega))
  clear O43
  have Yx := yn
  clear yn C
  have yx4 := Yx
  clear Yx
  go_cut [10, 11, 12] (fun sp sk sb wx => ∃ q A c B d a1 b1 a2 b2, sp = .pointer (some ⟨q, 0, none⟩) ∧ sk = .slice B r.1.o.length d ∧ sb = .bool r.2 ∧ w4b.heap.size ≤ q ∧ Blk wx q 28 #[.int .i64 r.1.s.me, .int .i64 r.1.s.round, .int .i64 r.1.s.step, .int .i64 r.1.s.lv, .int .i64 r.1.s.lr, .int .i64 r.1.s.vv, .int .i64 r.1.s.vr, .int .i64 r.1.s.polka, .int .i64 r.1.s.dec, .slice A r.1.l.length c] ∧ OwnL msgC 5 40 wx a1 b1 A r.1.l.length c r.1.l ∧ OwnL msgC 5 40 wx a2 b2 B r.1.o.length d r.1.o ∧ (w4b.heap.size ≤ a1 ∧ a1 ≤ b1 ∧ b1 ≤ wx.heap.size ∧ w4b.heap.size ≤ a2 ∧ a2 ≤ b2 ∧ b2 ≤ wx.heap.size ∧ (b1 ≤ a2 ∨ b2 ≤ a1) ∧ (q < a1 ∨ b1 ≤ q) ∧ (q < a2 ∨ b2 ≤ q)) ∧ Below w4b.heap.size w4b wx)
  case first =>
    refine wp_region_core [0, 1, 2, 3, 4, 5, 6, 7, 8, 9, 10] (Below w4b.heap.size w4b) (fun j wa wb => match j with | 9 => BoxTurn 28 wa wb | _ => Below wa.heap.size wa wb) (fun i b w => match i with
      | 0 => b.tmps.getD 36 undef = .agg #[.int .i64 s.me, .int .i64 s.round, .int .i64 s.step, .int .i64 s.lv, .int .i64 s.lr, .int .i64 s.vv, .int .i64 s.vr, .int .i64 s.polka, .int .i64 s.dec, .slice A4 l.length c4]
      | 1 => b.tmps.getD 37 undef = .agg #[.int .i64 m.k, .int .i64 m.r, .int .i64 m.v, .int .i64 m.p, .int .i64 m.f]
      | 2 => b.tmps.getD 38 undef = .agg #[.int .i64 m.k, .int .i64 m.r, .int .i64 m.v, .int .i64 m.p, .int .i64 m.f]
      | 3 => ∃ A c B d, b.tmps.getD 39 undef = .tuple #[.agg #[.int .i64 r.1.s.me, .int .i64 r.1.s.round, .int .i64 r.1.s.step, .int .i64 r.1.s.lv, .int .i64 r.1.s.lr, .int .i64 r.1.s.vv, .int .i64 r.1.s.vr, .int .i64 r.1.s.polka, .int .i64 r.1.s.dec, .slice A r.1.l.length c], .slice B r.1.o.length d, .bool r.2] ∧ Rows w (fun q => q < w4b.heap.size) A c B d r.1
      | 4 => ∃ A c B d, b.tmps.getD 35 undef = .tuple #[.agg #[.int .i64 r.1.s.me, .int .i64 r.1.s.round, .int .i64 r.1.s.step, .int .i64 r.1.s.lv, .int .i64 r.1.s.lr, .int .i64 r.1.s.vv, .int .i64 r.1.s.vr, .int .i64 r.1.s.polka, .int .i64 r.1.s.dec, .slice A r.1.l.length c], .slice B r.1.o.length d, .bool r.2] ∧ Rows w (fun q => q < w4b.heap.size) A c B d r.1
      | 5 => ∃ A c B d, b.tmps.getD 35 undef = .tuple #[.agg #[.int .i64 r.1.s.me, .int .i64 r.1.s.round, .int .i64 r.1.s.step, .int .i64 r.1.s.lv, .int .i64 r.1.s.lr, .int .i64 r.1.s.vv, .int .i64 r.1.s.vr, .int .i64 r.1.s.polka, .int .i64 r.1.s.dec, .slice A r.1.l.length c], .slice B r.1.o.length d, .bool r.2] ∧ b.tmps.getD 40 undef = .agg #[.int .i64 r.1.s.me, .int .i64 r.1.s.round, .int .i64 r.1.s.step, .int .i64 r.1.s.lv, .int .i64 r.1.s.lr, .int .i64 r.1.s.vv, .int .i64 r.1.s.vr, .int .i64 r.1.s.polka, .int .i64 r.1.s.dec, .slice A r.1.l.length c] ∧ Rows w (fun q => q < w4b.heap.size) A c B d r.1
      | 6 => ∃ A c B d, b.tmps.getD 35 undef = .tuple #[.agg #[.int .i64 r.1.s.me, .int .i64 r.1.s.round, .int .i64 r.1.s.step, .int .i64 r.1.s.lv, .int .i64 r.1.s.lr, .int .i64 r.1.s.vv, .int .i64 r.1.s.vr, .int .i64 r.1.s.polka, .int .i64 r.1.s.dec, .slice A r.1.l.length c], .slice B r.1.o.length d, .bool r.2] ∧ b.tmps.getD 41 undef = .slice B r.1.o.length d ∧ Rows w (fun q => q < w4b.heap.size) A c B d r.1
      | 7 => b.tmps.getD 42 undef = .bool r.2
      | 8 => ∃ q cs, b.tmps.getD 10 undef = .pointer (some ⟨q, 0, none⟩) ∧ w4b.heap.size ≤ q ∧ cs.size = 10 ∧ Blk w q 28 cs
      | 9 => ∃ q A c, b.tmps.getD 10 undef = .pointer (some ⟨q, 0, none⟩) ∧ b.tmps.getD 40 undef = .agg #[.int .i64 r.1.s.me, .int .i64 r.1.s.round, .int .i64 r.1.s.step, .int .i64 r.1.s.lv, .int .i64 r.1.s.lr, .int .i64 r.1.s.vv, .int .i64 r.1.s.vr, .int .i64 r.1.s.polka, .int .i64 r.1.s.dec, .slice A r.1.l.length c] ∧ w4b.heap.size ≤ q ∧ Blk w q 28 #[.int .i64 r.1.s.me, .int .i64 r.1.s.round, .int .i64 r.1.s.step, .int .i64 r.1.s.lv, .int .i64 r.1.s.lr, .int .i64 r.1.s.vv, .int .i64 r.1.s.vr, .int .i64 r.1.s.polka, .int .i64 r.1.s.dec, .slice A r.1.l.length c]
      | 10 => ∃ B d, b.tmps.getD 41 undef = .slice B r.1.o.length d ∧ b.tmps.getD 11 undef = .slice B r.1.o.length d
      | _ => True) (by kernel_rfl) (by kernel_rfl) ((Below.refl _ _).drew) ?_ ?_ ?_
    · intro b wa wb i j oj v hi hj hij hoj hdep hE h
      simp only [List.mem_cons, List.not_mem_nil, or_false] at hi hj
      rcases hj with rfl | rfl | rfl | rfl | rfl | rfl | rfl | rfl | rfl | rfl | rfl
      all_goals obtain rfl := Option.some.inj hoj
      · rcases hi with rfl | rfl | rfl | rfl | rfl | rfl | rfl | rfl | rfl | rfl | rfl
        all_goals first | exact absurd rfl hij | (simp only at hE h ⊢; first | exact getk h (by decide) | (obtain ⟨A, c, e, h⟩ := h; first | exact ⟨A, c, getk e (by decide), (h.below hE (Nat.le_refl _)).wide (Nat.le_refl _) hE.size⟩ | exact ⟨A, c, getk e (by decide), hE.row (by decide) h⟩) | (obtain ⟨A, c, B, d, e, h⟩ := h; first | exact ⟨A, c, B, d, getk e (by decide), h.below hE⟩ | exact ⟨A, c, B, d, getk e (by decide), h.turn hE⟩) | (obtain ⟨A, c, B, d, e, e2, h⟩ := h; first | exact ⟨A, c, B, d, getk e (by decide), getk e2 (by decide), h.below hE⟩ | exact ⟨A, c, B, d, getk e (by decide), getk e2 (by decide), h.turn hE⟩) | (obtain ⟨q, cs, e, h1, h2, h3⟩ := h; first | exact ⟨q, cs, getk e (by decide), h1, h2, h3.below hE h3.lt⟩ | (obtain ⟨cs', g1, g2⟩ := hE.box h3; exact ⟨q, cs', getk e (by decide), h1, g1.trans h2, g2⟩)) | (obtain ⟨B, d, e, e2⟩ := h; exact ⟨B, d, getk e (by decide), getk e2 (by decide)⟩) | (obtain ⟨q, A, c, e, e2, h1, h2⟩ := h; exact ⟨q, A, c, getk e (by decide), getk e2 (by decide), h1, h2.below hE h2.lt⟩)) | exact absurd rfl (hdep _ rfl ⟨0, .data⟩ (by simp) rfl)
      · rcases hi with rfl | rfl | rfl | rfl | rfl | rfl | rfl | rfl | rfl | rfl | rfl
        all_goals first | exact absurd rfl hij | (simp only at hE h ⊢; first | exact getk h (by decide) | (obtain ⟨A, c, e, h⟩ := h; first | exact ⟨A, c, getk e (by decide), (h.below hE (Nat.le_refl _)).wide (Nat.le_refl _) hE.size⟩ | exact ⟨A, c, getk e (by decide), hE.row (by decide) h⟩) | (obtain ⟨A, c, B, d, e, h⟩ := h; first | exact ⟨A, c, B, d, getk e (by decide), h.below hE⟩ | exact ⟨A, c, B, d, getk e (by decide), h.turn hE⟩) | (obtain ⟨A, c, B, d, e, e2, h⟩ := h; first | exact ⟨A, c, B, d, getk e (by decide), getk e2 (by decide), h.below hE⟩ | exact ⟨A, c, B, d, getk e (by decide), getk e2 (by decide), h.turn hE⟩) | (obtain ⟨q, cs, e, h1, h2, h3⟩ := h; first | exact ⟨q, cs, getk e (by decide), h1, h2, h3.below hE h3.lt⟩ | (obtain ⟨cs', g1, g2⟩ := hE.box h3; exact ⟨q, cs', getk e (by decide), h1, g1.trans h2, g2⟩)) | (obtain ⟨B, d, e, e2⟩ := h; exact ⟨B, d, getk e (by decide), getk e2 (by decide)⟩) | (obtain ⟨q, A, c, e, e2, h1, h2⟩ := h; exact ⟨q, A, c, getk e (by decide), getk e2 (by decide), h1, h2.below hE h2.lt⟩)) | exact absurd rfl (hdep _ rfl ⟨1, .data⟩ (by simp) rfl)
      · rcases hi with rfl | rfl | rfl | rfl | rfl | rfl | rfl | rfl | rfl | rfl | rfl
        all_goals first | exact absurd rfl hij | (simp only at hE h ⊢; first | exact getk h (by decide) | (obtain ⟨A, c, e, h⟩ := h; first | exact ⟨A, c, getk e (by decide), (h.below hE (Nat.le_refl _)).wide (Nat.le_refl _) hE.size⟩ | exact ⟨A, c, getk e (by decide), hE.row (by decide) h⟩) | (obtain ⟨A, c, B, d, e, h⟩ := h; first | exact ⟨A, c, B, d, getk e (by decide), h.below hE⟩ | exact ⟨A, c, B, d, getk e (by decide), h.turn hE⟩) | (obtain ⟨A, c, B, d, e, e2, h⟩ := h; first | exact ⟨A, c, B, d, getk e (by decide), getk e2 (by decide), h.below hE⟩ | exact ⟨A, c, B, d, getk e (by decide), getk e2 (by decide), h.turn hE⟩) | (obtain ⟨q, cs, e, h1, h2, h3⟩ := h; first | exact ⟨q, cs, getk e (by decide), h1, h2, h3.below hE h3.lt⟩ | (obtain ⟨cs', g1, g2⟩ := hE.box h3; exact ⟨q, cs', getk e (by decide), h1, g1.trans h2, g2⟩)) | (obtain ⟨B, d, e, e2⟩ := h; exact ⟨B, d, getk e (by decide), getk e2 (by decide)⟩) | (obtain ⟨q, A, c, e, e2, h1, h2⟩ := h; exact ⟨q, A, c, getk e (by decide), getk e2 (by decide), h1, h2.below hE h2.lt⟩)) | exact absurd rfl (hdep _ rfl ⟨2, .data⟩ (by simp) rfl)
      · rcases hi with rfl | rfl | rfl | rfl | rfl | rfl | rfl | rfl | rfl | rfl | rfl
        all_goals first | exact absurd rfl hij | (simp only at hE h ⊢; first | exact getk h (by decide) | (obtain ⟨A, c, e, h⟩ := h; first | exact ⟨A, c, getk e (by decide), (h.below hE (Nat.le_refl _)).wide (Nat.le_refl _) hE.size⟩ | exact ⟨A, c, getk e (by decide), hE.row (by decide) h⟩) | (obtain ⟨A, c, B, d, e, h⟩ := h; first | exact ⟨A, c, B, d, getk e (by decide), h.below hE⟩ | exact ⟨A, c, B, d, getk e (by decide), h.turn hE⟩) | (obtain ⟨A, c, B, d, e, e2, h⟩ := h; first | exact ⟨A, c, B, d, getk e (by decide), getk e2 (by decide), h.below hE⟩ | exact ⟨A, c, B, d, getk e (by decide), getk e2 (by decide), h.turn hE⟩) | (obtain ⟨q, cs, e, h1, h2, h3⟩ := h; first | exact ⟨q, cs, getk e (by decide), h1, h2, h3.below hE h3.lt⟩ | (obtain ⟨cs', g1, g2⟩ := hE.box h3; exact ⟨q, cs', getk e (by decide), h1, g1.trans h2, g2⟩)) | (obtain ⟨B, d, e, e2⟩ := h; exact ⟨B, d, getk e (by decide), getk e2 (by decide)⟩) | (obtain ⟨q, A, c, e, e2, h1, h2⟩ := h; exact ⟨q, A, c, getk e (by decide), getk e2 (by decide), h1, h2.below hE h2.lt⟩)) | exact absurd rfl (hdep _ rfl ⟨3, .data⟩ (by simp) rfl)
      · rcases hi with rfl | rfl | rfl | rfl | rfl | rfl | rfl | rfl | rfl | rfl | rfl
        all_goals first | exact absurd rfl hij | (simp only at hE h ⊢; first | exact getk h (by decide) | (obtain ⟨A, c, e, h⟩ := h; first | exact ⟨A, c, getk e (by decide), (h.below hE (Nat.le_refl _)).wide (Nat.le_refl _) hE.size⟩ | exact ⟨A, c, getk e (by decide), hE.row (by decide) h⟩) | (obtain ⟨A, c, B, d, e, h⟩ := h; first | exact ⟨A, c, B, d, getk e (by decide), h.below hE⟩ | exact ⟨A, c, B, d, getk e (by decide), h.turn hE⟩) | (obtain ⟨A, c, B, d, e, e2, h⟩ := h; first | exact ⟨A, c, B, d, getk e (by decide), getk e2 (by decide), h.below hE⟩ | exact ⟨A, c, B, d, getk e (by decide), getk e2 (by decide), h.turn hE⟩) | (obtain ⟨q, cs, e, h1, h2, h3⟩ := h; first | exact ⟨q, cs, getk e (by decide), h1, h2, h3.below hE h3.lt⟩ | (obtain ⟨cs', g1, g2⟩ := hE.box h3; exact ⟨q, cs', getk e (by decide), h1, g1.trans h2, g2⟩)) | (obtain ⟨B, d, e, e2⟩ := h; exact ⟨B, d, getk e (by decide), getk e2 (by decide)⟩) | (obtain ⟨q, A, c, e, e2, h1, h2⟩ := h; exact ⟨q, A, c, getk e (by decide), getk e2 (by decide), h1, h2.below hE h2.lt⟩)) | exact absurd rfl (hdep _ rfl ⟨4, .data⟩ (by simp) rfl)
      · rcases hi with rfl | rfl | rfl | rfl | rfl | rfl | rfl | rfl | rfl | rfl | rfl
        all_goals first | exact absurd rfl hij | (simp only at hE h ⊢; first | exact getk h (by decide) | (obtain ⟨A, c, e, h⟩ := h; first | exact ⟨A, c, getk e (by decide), (h.below hE (Nat.le_refl _)).wide (Nat.le_refl _) hE.size⟩ | exact ⟨A, c, getk e (by decide), hE.row (by decide) h⟩) | (obtain ⟨A, c, B, d, e, h⟩ := h; first | exact ⟨A, c, B, d, getk e (by decide), h.below hE⟩ | exact ⟨A, c, B, d, getk e (by decide), h.turn hE⟩) | (obtain ⟨A, c, B, d, e, e2, h⟩ := h; first | exact ⟨A, c, B, d, getk e (by decide), getk e2 (by decide), h.below hE⟩ | exact ⟨A, c, B, d, getk e (by decide), getk e2 (by decide), h.turn hE⟩) | (obtain ⟨q, cs, e, h1, h2, h3⟩ := h; first | exact ⟨q, cs, getk e (by decide), h1, h2, h3.below hE h3.lt⟩ | (obtain ⟨cs', g1, g2⟩ := hE.box h3; exact ⟨q, cs', getk e (by decide), h1, g1.trans h2, g2⟩)) | (obtain ⟨B, d, e, e2⟩ := h; exact ⟨B, d, getk e (by decide), getk e2 (by decide)⟩) | (obtain ⟨q, A, c, e, e2, h1, h2⟩ := h; exact ⟨q, A, c, getk e (by decide), getk e2 (by decide), h1, h2.below hE h2.lt⟩)) | exact absurd rfl (hdep _ rfl ⟨5, .data⟩ (by simp) rfl)
      · rcases hi with rfl | rfl | rfl | rfl | rfl | rfl | rfl | rfl | rfl | rfl | rfl
        all_goals first | exact absurd rfl hij | (simp only at hE h ⊢; first | exact getk h (by decide) | (obtain ⟨A, c, e, h⟩ := h; first | exact ⟨A, c, getk e (by decide), (h.below hE (Nat.le_refl _)).wide (Nat.le_refl _) hE.size⟩ | exact ⟨A, c, getk e (by decide), hE.row (by decide) h⟩) | (obtain ⟨A, c, B, d, e, h⟩ := h; first | exact ⟨A, c, B, d, getk e (by decide), h.below hE⟩ | exact ⟨A, c, B, d, getk e (by decide), h.turn hE⟩) | (obtain ⟨A, c, B, d, e, e2, h⟩ := h; first | exact ⟨A, c, B, d, getk e (by decide), getk e2 (by decide), h.below hE⟩ | exact ⟨A, c, B, d, getk e (by decide), getk e2 (by decide), h.turn hE⟩) | (obtain ⟨q, cs, e, h1, h2, h3⟩ := h; first | exact ⟨q, cs, getk e (by decide), h1, h2, h3.below hE h3.lt⟩ | (obtain ⟨cs', g1, g2⟩ := hE.box h3; exact ⟨q, cs', getk e (by decide), h1, g1.trans h2, g2⟩)) | (obtain ⟨B, d, e, e2⟩ := h; exact ⟨B, d, getk e (by decide), getk e2 (by decide)⟩) | (obtain ⟨q, A, c, e, e2, h1, h2⟩ := h; exact ⟨q, A, c, getk e (by decide), getk e2 (by decide), h1, h2.below hE h2.lt⟩)) | exact absurd rfl (hdep _ rfl ⟨6, .data⟩ (by simp) rfl)
      · rcases hi with rfl | rfl | rfl | rfl | rfl | rfl | rfl | rfl | rfl | rfl | rfl
        all_goals first | exact absurd rfl hij | (simp only at hE h ⊢; first | exact getk h (by decide) | (obtain ⟨A, c, e, h⟩ := h; first | exact ⟨A, c, getk e (by decide), (h.below hE (Nat.le_refl _)).wide (Nat.le_refl _) hE.size⟩ | exact ⟨A, c, getk e (by decide), hE.row (by decide) h⟩) | (obtain ⟨A, c, B, d, e, h⟩ := h; first | exact ⟨A, c, B, d, getk e (by decide), h.below hE⟩ | exact ⟨A, c, B, d, getk e (by decide), h.turn hE⟩) | (obtain ⟨A, c, B, d, e, e2, h⟩ := h; first | exact ⟨A, c, B, d, getk e (by decide), getk e2 (by decide), h.below hE⟩ | exact ⟨A, c, B, d, getk e (by decide), getk e2 (by decide), h.turn hE⟩) | (obtain ⟨q, cs, e, h1, h2, h3⟩ := h; first | exact ⟨q, cs, getk e (by decide), h1, h2, h3.below hE h3.lt⟩ | (obtain ⟨cs', g1, g2⟩ := hE.box h3; exact ⟨q, cs', getk e (by decide), h1, g1.trans h2, g2⟩)) | (obtain ⟨B, d, e, e2⟩ := h; exact ⟨B, d, getk e (by decide), getk e2 (by decide)⟩) | (obtain ⟨q, A, c, e, e2, h1, h2⟩ := h; exact ⟨q, A, c, getk e (by decide), getk e2 (by decide), h1, h2.below hE h2.lt⟩)) | exact absurd rfl (hdep _ rfl ⟨7, .data⟩ (by simp) rfl)
      · rcases hi with rfl | rfl | rfl | rfl | rfl | rfl | rfl | rfl | rfl | rfl | rfl
        all_goals first | exact absurd rfl hij | (simp only at hE h ⊢; first | exact getk h (by decide) | (obtain ⟨A, c, e, h⟩ := h; first | exact ⟨A, c, getk e (by decide), (h.below hE (Nat.le_refl _)).wide (Nat.le_refl _) hE.size⟩ | exact ⟨A, c, getk e (by decide), hE.row (by decide) h⟩) | (obtain ⟨A, c, B, d, e, h⟩ := h; first | exact ⟨A, c, B, d, getk e (by decide), h.below hE⟩ | exact ⟨A, c, B, d, getk e (by decide), h.turn hE⟩) | (obtain ⟨A, c, B, d, e, e2, h⟩ := h; first | exact ⟨A, c, B, d, getk e (by decide), getk e2 (by decide), h.below hE⟩ | exact ⟨A, c, B, d, getk e (by decide), getk e2 (by decide), h.turn hE⟩) | (obtain ⟨q, cs, e, h1, h2, h3⟩ := h; first | exact ⟨q, cs, getk e (by decide), h1, h2, h3.below hE h3.lt⟩ | (obtain ⟨cs', g1, g2⟩ := hE.box h3; exact ⟨q, cs', getk e (by decide), h1, g1.trans h2, g2⟩)) | (obtain ⟨B, d, e, e2⟩ := h; exact ⟨B, d, getk e (by decide), getk e2 (by decide)⟩) | (obtain ⟨q, A, c, e, e2, h1, h2⟩ := h; exact ⟨q, A, c, getk e (by decide), getk e2 (by decide), h1, h2.below hE h2.lt⟩)) | exact absurd rfl (hdep _ rfl ⟨8, .data⟩ (by simp) rfl)
      · rcases hi with rfl | rfl | rfl | rfl | rfl | rfl | rfl | rfl | rfl | rfl | rfl
        all_goals first | exact absurd rfl hij | (simp only at hE h ⊢; first | exact getk h (by decide) | (obtain ⟨A, c, e, h⟩ := h; first | exact ⟨A, c, getk e (by decide), (h.below hE (Nat.le_refl _)).wide (Nat.le_refl _) hE.size⟩ | exact ⟨A, c, getk e (by decide), hE.row (by decide) h⟩) | (obtain ⟨A, c, B, d, e, h⟩ := h; first | exact ⟨A, c, B, d, getk e (by decide), h.below hE⟩ | exact ⟨A, c, B, d, getk e (by decide), h.turn hE⟩) | (obtain ⟨A, c, B, d, e, e2, h⟩ := h; first | exact ⟨A, c, B, d, getk e (by decide), getk e2 (by decide), h.below hE⟩ | exact ⟨A, c, B, d, getk e (by decide), getk e2 (by decide), h.turn hE⟩) | (obtain ⟨q, cs, e, h1, h2, h3⟩ := h; first | exact ⟨q, cs, getk e (by decide), h1, h2, h3.below hE h3.lt⟩ | (obtain ⟨cs', g1, g2⟩ := hE.box h3; exact ⟨q, cs', getk e (by decide), h1, g1.trans h2, g2⟩)) | (obtain ⟨B, d, e, e2⟩ := h; exact ⟨B, d, getk e (by decide), getk e2 (by decide)⟩) | (obtain ⟨q, A, c, e, e2, h1, h2⟩ := h; exact ⟨q, A, c, getk e (by decide), getk e2 (by decide), h1, h2.below hE h2.lt⟩)) | exact absurd rfl (hdep _ rfl ⟨9, .data⟩ (by simp) rfl)
      · rcases hi with rfl | rfl | rfl | rfl | rfl | rfl | rfl | rfl | rfl | rfl | rfl
        all_goals first | exact absurd rfl hij | (simp only at hE h ⊢; first | exact getk h (by decide) | (obtain ⟨A, c, e, h⟩ := h; first | exact ⟨A, c, getk e (by decide), (h.below hE (Nat.le_refl _)).wide (Nat.le_refl _) hE.size⟩ | exact ⟨A, c, getk e (by decide), hE.row (by decide) h⟩) | (obtain ⟨A, c, B, d, e, h⟩ := h; first | exact ⟨A, c, B, d, getk e (by decide), h.below hE⟩ | exact ⟨A, c, B, d, getk e (by decide), h.turn hE⟩) | (obtain ⟨A, c, B, d, e, e2, h⟩ := h; first | exact ⟨A, c, B, d, getk e (by decide), getk e2 (by decide), h.below hE⟩ | exact ⟨A, c, B, d, getk e (by decide), getk e2 (by decide), h.turn hE⟩) | (obtain ⟨q, cs, e, h1, h2, h3⟩ := h; first | exact ⟨q, cs, getk e (by decide), h1, h2, h3.below hE h3.lt⟩ | (obtain ⟨cs', g1, g2⟩ := hE.box h3; exact ⟨q, cs', getk e (by decide), h1, g1.trans h2, g2⟩)) | (obtain ⟨B, d, e, e2⟩ := h; exact ⟨B, d, getk e (by decide), getk e2 (by decide)⟩) | (obtain ⟨q, A, c, e, e2, h1, h2⟩ := h; exact ⟨q, A, c, getk e (by decide), getk e2 (by decide), h1, h2.below hE h2.lt⟩)) | exact absurd rfl (hdep _ rfl ⟨10, .data⟩ (by simp) rfl)
    · intro j o hj ho a' w' hC hsame hdep
      have hz : w4b.heap.size ≤ w'.heap.size := hC.size
      simp only [List.mem_cons, List.not_mem_nil, or_false] at hj
      rcases hj with rfl | rfl | rfl | rfl | rfl | rfl | rfl | rfl | rfl | rfl | rfl
      all_goals obtain rfl := Option.some.inj ho
      · have hs : a'.tmps.getD 9 undef = .pointer (some ⟨w4.heap.size, 0, none⟩) := hsame 9 (by rfl)
        have zz : ∀ o, w'.cell? ⟨w4.heap.size, o, none⟩ = _ := fun o => (hC.cell (p := ⟨w4.heap.size, o, none⟩) (by show w4.heap.size < w4b.heap.size; omega)).trans (yx4 o)
        refine wp_val (w2 := w') (.agg #[.int .i64 s.me, .int .i64 s.round, .int .i64 s.step, .int .i64 s.lv, .int .i64 s.lr, .int .i64 s.vv, .int .i64 s.vr, .int .i64 s.polka, .int .i64 s.dec, .slice A4 l.length c4]) (fun K hK => ?_) ⟨_, rfl, hC, Below.refl _ _, fun b hb _ => hb 36 rfl⟩
        clear hsame hdep
        unfold Oper.wp
        simp [execOp, Act.eval, hs, go_sem, zz]
        exact hK
      · have hs : a'.tmps.getD 3 undef = .pointer (some ⟨w.heap.size + 1, 0, none⟩) := hsame 3 (by rfl)
        have zz : ∀ o, w'.cell? ⟨w.heap.size + 1, o, none⟩ = _ := fun o => (hC.cell (p := ⟨w.heap.size + 1, o, none⟩) (by show w.heap.size + 1 < w4b.heap.size; omega)).trans (ym4 o)
        refine wp_val (w2 := w') (.agg #[.int .i64 m.k, .int .i64 m.r, .int .i64 m.v, .int .i64 m.p, .int .i64 m.f]) (fun K hK => ?_) ⟨_, rfl, hC, Below.refl _ _, fun b hb _ => hb 37 rfl⟩
        clear hsame hdep
        unfold Oper.wp
        simp [execOp, Act.eval, hs, go_sem, zz]
        exact hK
      · have e1 : a'.tmps.getD 37 undef = .agg #[.int .i64 m.k, .int .i64 m.r, .int .i64 m.v, .int .i64 m.p, .int .i64 m.f] := hdep ⟨1, .data⟩ (by simp) rfl
        refine wp_call (fun u w2 => u = .agg #[.int .i64 m.k, .int .i64 m.r, .int .i64 m.v, .int .i64 m.p, .int .i64 m.f] ∧ Below w'.heap.size w' w2) (fun K hK => ?_) ?_
        · clear hsame hdep
          unfold Oper.wp
          simp [Act.eval, e1, go_sem]
          refine (toNMsg_any m.k m.r m.v m.p m.f _).mono ?_
          rintro e w3 ⟨rfl, hb3⟩
          exact hK _ _ ⟨rfl, hb3⟩
        · rintro u w3 ⟨rfl, hb3⟩
          exact ⟨_, rfl, hC.trans (hb3.mono hz), hb3, fun b hb _ => hb 38 rfl⟩
      · have e1 : a'.tmps.getD 36 undef = .agg #[.int .i64 s.me, .int .i64 s.round, .int .i64 s.step, .int .i64 s.lv, .int .i64 s.lr, .int .i64 s.vv, .int .i64 s.vr, .int .i64 s.polka, .int .i64 s.dec, .slice A4 l.length c4] := hdep ⟨0, .data⟩ (by simp) rfl
        have hr : RdL msgC 5 w' w'.heap.size A4 l.length c4 l := ((O44.out.rd msgC_len).below hC (by omega)).more (by omega)
        have e2 : a'.tmps.getD 38 undef = .agg #[.int .i64 m.k, .int .i64 m.r, .int .i64 m.v, .int .i64 m.p, .int .i64 m.f] := hdep ⟨2, .data⟩ (by simp) rfl
        refine wp_call (fun u w2 => ∃ A c B d, u = .tuple #[.agg #[.int .i64 r.1.s.me, .int .i64 r.1.s.round, .int .i64 r.1.s.step, .int .i64 r.1.s.lv, .int .i64 r.1.s.lr, .int .i64 r.1.s.vv, .int .i64 r.1.s.vr, .int .i64 r.1.s.polka, .int .i64 r.1.s.dec, .slice A r.1.l.length c], .slice B r.1.o.length d, .bool r.2] ∧ Rows w2 (fun q => q < w4b.heap.size) A c B d r.1 ∧ Below w'.heap.size w' w2) (fun K hK => ?_) ?_
        · clear hsame hdep
          unfold Oper.wp
          simp [Act.eval, e1, e2, go_sem]
          refine (NodeGet_any s A4 c4 l m _ hr).mono ?_
          rintro e w3 ⟨A7, c7, B7, d7, he, hrr, hkk⟩
          rw [← HR.out] at he hrr
          subst he
          exact hK _ _ ⟨A7, c7, B7, d7, rfl, hrr.mono fun q hq => Nat.lt_of_lt_of_le hq hz, hkk.below fun q hq => hq⟩
        · rintro u w3 ⟨A7, c7, B7, d7, rfl, hrr, hb3⟩
          exact ⟨_, rfl, hC.trans (hb3.mono hz), hb3, fun b hb _ => ⟨A7, c7, B7, d7, hb 39 rfl, hrr⟩⟩
      · obtain ⟨A7, c7, B7, d7, e1, hrr⟩ := hdep ⟨3, .data⟩ (by simp) rfl
        refine wp_val (w2 := w') (.tuple #[.agg #[.int .i64 r.1.s.me, .int .i64 r.1.s.round, .int .i64 r.1.s.step, .int .i64 r.1.s.lv, .int .i64 r.1.s.lr, .int .i64 r.1.s.vv, .int .i64 r.1.s.vr, .int .i64 r.1.s.polka, .int .i64 r.1.s.dec, .slice A7 r.1.l.length c7], .slice B7 r.1.o.length d7, .bool r.2]) (fun K hK => ?_) ⟨_, rfl, hC, Below.refl _ _, fun b hb _ => ⟨A7, c7, B7, d7, hb 35 rfl, hrr⟩⟩
        clear hsame hdep
        unfold Oper.wp
        simp [execOp, Act.eval, e1, go_sem]
        exact hK
      · obtain ⟨A7, c7, B7, d7, e1, hrr⟩ := hdep ⟨4, .data⟩ (by simp) rfl
        refine wp_val (w2 := w') (.agg #[.int .i64 r.1.s.me, .int .i64 r.1.s.round, .int .i64 r.1.s.step, .int .i64 r.1.s.lv, .int .i64 r.1.s.lr, .int .i64 r.1.s.vv, .int .i64 r.1.s.vr, .int .i64 r.1.s.polka, .int .i64 r.1.s.dec, .slice A7 r.1.l.length c7]) (fun K hK => ?_) ⟨_, rfl, hC, Below.refl _ _, fun b hb hb2 => ⟨A7, c7, B7, d7, (hb2 35 (by intro d h; cases h; decide)).trans e1, hb 40 rfl, hrr⟩⟩
        clear hsame hdep
        unfold Oper.wp
        simp [execOp, Act.eval, e1, go_sem]
        exact hK
      · obtain ⟨A7, c7, B7, d7, e1, hrr⟩ := hdep ⟨4, .data⟩ (by simp) rfl
        refine wp_val (w2 := w') (.slice B7 r.1.o.length d7) (fun K hK => ?_) ⟨_, rfl, hC, Below.refl _ _, fun b hb hb2 => ⟨A7, c7, B7, d7, (hb2 35 (by intro d h; cases h; decide)).trans e1, hb 41 rfl, hrr⟩⟩
        clear hsame hdep
        unfold Oper.wp
        simp [execOp, Act.eval, e1, go_sem]
        exact hK
      · obtain ⟨A7, c7, B7, d7, e1, hrr⟩ := hdep ⟨4, .data⟩ (by simp) rfl
        refine wp_val (w2 := w') (.bool r.2) (fun K hK => ?_) ⟨_, rfl, hC, Below.refl _ _, fun b hb hb2 => hb 42 rfl⟩
        clear hsame hdep
        unfold Oper.wp
        simp [execOp, Act.eval, e1, go_sem]
        exact hK
      · refine wp_val (w2 := w'.alloc (.cells #[.int .i64 0, .int .i64 0, .int .i64 0, .int .i64 0, .int .i64 0, .int .i64 0, .int .i64 0, .int .i64 0, .int .i64 0, .slice none 0 0] 28)) (.pointer (some ⟨w'.heap.size, 0, none⟩)) (fun K hK => ?_) ⟨_, rfl, hC.alloc hz _, (Below.refl _ _).alloc (Nat.le_refl _) _, fun b hb _ => ⟨w'.heap.size, _, hb 10 rfl, hz, rfl, heap_alloc_new w' _⟩⟩
        clear hsame hdep
        unfold Oper.wp
        simp [execOp, go_sem]
        exact hK
      · obtain ⟨q0, cs0, e1, hq0, hsz, hblk⟩ := hdep ⟨8, .data⟩ (by simp) rfl
        obtain ⟨A7, c7, B7, d7, e3, e2, hrr⟩ := hdep ⟨5, .data⟩ (by simp) rfl
        clear e3 hrr
        obtain ⟨lc⟩ := cs0
        obtain ⟨k0, k1, k2, k3, k4, k5, k6, k7, k8, k9, rfl⟩ := list10 (l := lc) (by simpa using hsz)
        have f0 : w'.cell? ⟨q0, 0, none⟩ = some k0 := by rw [hblk.cell]; rfl
        have f1 : w'.cell? ⟨q0, 1, none⟩ = some k1 := by rw [hblk.cell]; rfl
        have f2 : w'.cell? ⟨q0, 2, none⟩ = some k2 := by rw [hblk.cell]; rfl
        have f3 : w'.cell? ⟨q0, 3, none⟩ = some k3 := by rw [hblk.cell]; rfl
        have f4 : w'.cell? ⟨q0, 4, none⟩ = some k4 := by rw [hblk.cell]; rfl
        have f5 : w'.cell? ⟨q0, 5, none⟩ = some k5 := by rw [hblk.cell]; rfl
        have f6 : w'.cell? ⟨q0, 6, none⟩ = some k6 := by rw [hblk.cell]; rfl
        have f7 : w'.cell? ⟨q0, 7, none⟩ = some k7 := by rw [hblk.cell]; rfl
        have f8 : w'.cell? ⟨q0, 8, none⟩ = some k8 := by rw [hblk.cell]; rfl
        have f9 : w'.cell? ⟨q0, 9, none⟩ = some k9 := by rw [hblk.cell]; rfl
        have ff := hblk.frozen
        obtain ⟨w9, hw9⟩ : ∃ z, z = ((((((((((w'.setCell ⟨q0, 0, none⟩ (.int .i64 r.1.s.me)).setCell ⟨q0, 1, none⟩ (.int .i64 r.1.s.round)).setCell ⟨q0, 2, none⟩ (.int .i64 r.1.s.step)).setCell ⟨q0, 3, none⟩ (.int .i64 r.1.s.lv)).setCell ⟨q0, 4, none⟩ (.int .i64 r.1.s.lr)).setCell ⟨q0, 5, none⟩ (.int .i64 r.1.s.vv)).setCell ⟨q0, 6, none⟩ (.int .i64 r.1.s.vr)).setCell ⟨q0, 7, none⟩ (.int .i64 r.1.s.polka)).setCell ⟨q0, 8, none⟩ (.int .i64 r.1.s.dec)).setCell ⟨q0, 9, none⟩ (.slice A7 r.1.l.length c7)) := ⟨_, rfl⟩
        have hchg : Chg q0 (q0 + 1) w' w9 := by rw [hw9]; (repeat (first | with_reducible refine Chg.setCell ?_ (by first | exact Nat.le_refl _ | (simp; done) | (simp; omega)) (by first | (simp; done) | (simp; omega)) _ | with_reducible refine Chg.alloc ?_ _ | with_reducible refine Chg.drew ?_)); (with_reducible exact Chg.refl _ _ _)
        have hblk2 : Blk w9 q0 28 #[.int .i64 r.1.s.me, .int .i64 r.1.s.round, .int .i64 r.1.s.step, .int .i64 r.1.s.lv, .int .i64 r.1.s.lr, .int .i64 r.1.s.vv, .int .i64 r.1.s.vr, .int .i64 r.1.s.polka, .int .i64 r.1.s.dec, .slice A7 r.1.l.length c7] := by
          rw [hw9]
          have hb := ((((((((((hblk.set_ 0 (.int .i64 r.1.s.me)).set_ 1 (.int .i64 r.1.s.round)).set_ 2 (.int .i64 r.1.s.step)).set_ 3 (.int .i64 r.1.s.lv)).set_ 4 (.int .i64 r.1.s.lr)).set_ 5 (.int .i64 r.1.s.vv)).set_ 6 (.int .i64 r.1.s.vr)).set_ 7 (.int .i64 r.1.s.polka)).set_ 8 (.int .i64 r.1.s.dec)).set_ 9 (.slice A7 r.1.l.length c7))
          simp only [List.setIfInBounds_toArray, List.set_cons_zero, List.set_cons_succ] at hb
          exact hb
        have hturn := BoxTurn.of_blk hblk hblk2 rfl hchg
        have hcls := hC.trans (hchg.below hq0 hz)
        refine wp_val (w2 := w9) undef (fun K hK => ?_) ⟨_, rfl, hcls, hturn, fun b _ hb => ⟨q0, A7, c7, (hb 10 (by intro d h; cases h)).trans e1, (hb 40 (by intro d h; cases h)).trans e2, hq0, hblk2⟩⟩
        rw [hw9] at hK
        clear hsame hdep hchg hblk2 hturn hcls hw9
        unfold Oper.wp
        simp [execOp, Act.eval, e1, e2, go_sem, f0, f1, f2, f3, f4, f5, f6, f7, f8, f9, ff]
        exact hK
      · obtain ⟨A7, c7, B7, d7, e1, e2, hrr⟩ := hdep ⟨6, .data⟩ (by simp) rfl
        clear e1 hrr
        refine wp_val (w2 := w') (.slice B7 r.1.o.length d7) (fun K hK => ?_) ⟨_, rfl, hC, Below.refl _ _, fun b hb hb2 => ⟨B7, d7, (hb2 41 (by intro d h; cases h; decide)).trans e2, hb 11 rfl⟩⟩
        clear hsame hdep
        unfold Oper.wp
        simp [execOp, Act.eval, e2, go_sem]
        exact hK
    · intro a' w' hC ha hP
      obtain ⟨q0, A7, c7, e1, f1, hq0, hblk⟩ := hP 9 (by simp)
      obtain ⟨A8, c8, B8, d8, t1, f2, hrr⟩ := hP 5 (by simp)
      obtain ⟨A9, c9, B9, d9, t2, e3, _⟩ := hP 6 (by simp)
      have e4 : a'.tmps.getD 42 undef = .bool r.2 := hP 7 (by simp)
      obtain ⟨B10, d10, e5, e6⟩ := hP 10 (by simp)
      clear hP
      have ex := f1.symm.trans f2
      simp only [Value.agg.injEq, Array.mk.injEq, List.cons.injEq, Value.slice.injEq, true_and, and_true] at ex
      obtain ⟨rfl, rfl⟩ := ex
      have ey := t1.symm.trans t2
      simp only [Value.tuple.injEq, Value.agg.injEq, Array.mk.injEq, List.cons.injEq, Value.slice.injEq, true_and, and_true] at ey
      obtain ⟨⟨rfl, rfl⟩, rfl, rfl⟩ := ey
      clear f1 f2 t1 t2
      have ez := e3.symm.trans e5
      simp only [Value.slice.injEq, true_and] at ez
      obtain ⟨rfl, rfl⟩ := ez
      clear e5
      simp only [coreOps, List.filterMap_cons, List.filterMap_nil, List.getElem?_cons_zero, List.getElem?_cons_succ, fillA, slotOf, Act.put, e1, e3, e4, e6] at ha
      generalize a'.tmps.getD 36 undef = u36 at ha
      generalize a'.tmps.getD 37 undef = u37 at ha
      generalize a'.tmps.getD 38 undef = u38 at ha
      generalize a'.tmps.getD 39 undef = u39 at ha
      generalize a'.tmps.getD 35 undef = u35 at ha
      generalize a'.tmps.getD 40 undef = u40 at ha
      subst ha
      show wpAny _ _ _ _ 1 _ _ _
      refine wpAny_ready (rs := [11]) (by kernel_rfl) (by simp) ?_
      refine AllReady.cons rfl (fun K hK => ?_) AllReady.nil
      go_simp
      refine hK _ _ ?_
      clear hK K
      refine wpAny_done (by kernel_rfl) ?_ _
      go_wp2_with fail
      go_meet
      obtain ⟨a1, b1, a2, b2, o1, o2, p1, p2, p3, p4, p5, p6, p7⟩ := hrr.split hC.size
      obtain ⟨x1, y1, o3, s1, s2, s3, s4⟩ := o1.apart hblk (by decide) p2
      obtain ⟨x2, y2, o4, s5, s6, s7, s8⟩ := o2.apart hblk (by decide) p5
      exact ⟨q0, A7, c7, B8, d8, x1, y1, x2, y2, rfl, rfl, rfl, hq0, hblk, o3, o4, by omega, hC⟩
  case rest =>
  obtain ⟨q5, A5, c5, D5, d5, a15, b15, a25, b25, rfl, rfl, rfl, hq5, hblk, p1, p2, hint5, hb⟩ := hcut
  obtain ⟨h51, h52, h53, h54, h55, h56, h57, h58, h59⟩ := hint5
  obtain ⟨w5, hw7⟩ : ∃ q, q = wc := ⟨_, rfl⟩
  subst hw7
  have C : Chg 0 0 w4b w5 := ⟨hb.os, hb.tape, hb.output, hb.size, fun k hk _ => hb.block k hk⟩
  clear hb
  have P1 := Lib.hid p1
  have P2 := Lib.hid p2
  clear p1 p2
  have yn : ∀ o, w5.cell? ⟨q5, o, none⟩ = (#[.int .i64 r.1.s.me, .int .i64 r.1.s.round, .int .i64 r.1.s.step, .int .i64 r.1.s.lv, .int .i64 r.1.s.lr, .int .i64 r.1.s.vv, .int .i64 r.1.s.vr, .int .i64 r.1.s.polka, .int .i64 r.1.s.dec, .slice A5 r.1.l.length c5] : Array Value)[o]? := fun o => hblk.cell o
  have hl5 := hblk.lt
  clear hblk
  have Yg := yn
  clear yn
  have hs5 := C.size
  have B5 : Hid (Below w.heap.size w w5) := Lib.hid (B4.out.trans (C.under (B := w.heap.size) (by omega) (by omega)))
  clear B4
  have ym5 : ∀ o, w5.cell? ⟨w.heap.size + 1, o, none⟩ = _ := fun o => (C.cell (k := w.heap.size + 1) (by omega) (by omega)).trans (ym4 o)
  clear ym4
  have ya5 : ∀ o, w5.cell? ⟨w.heap.size, o, none⟩ = _ := fun o => (C.cell (k := w.heap.size) (by omega) (by omega)).trans (ya4 o)
  clear ya4
  have yh5 : ∀ o, w5.cell? ⟨q3, o, none⟩ = _ := fun o => (C.cell (k := q3) (by omega) (by omega)).trans (yh4 o)
  clear yh4
  have yx5 : ∀ o, w5.cell? ⟨w4.heap.size, o, none⟩ = _ := fun o => (C.cell (k := w4.heap.size) (by omega) (by omega)).trans (yx4 o)
  clear yx4
  have O3l5 := Lib.hid (O3l4.out.chg C (by omega))
  clear O3l4
  have O3o5 := Lib.hid (O3o4.out.chg C (by omega))
  clear O3o4
  have O45 := Lib.hid (O44.out.chg C (by omega))
  clear O44
  clear C
  have yg5 := Yg
  clear Yg
  have O5l5 := P1
  have O5o5 := P2
  clear P1 P2
  go_wp2_with fail
  refine (eqNode_same r.1.s A5 r.1.l.length c5 A3 c3 r.1.l _ ((O5l5.out.rd msgC_len).more (by omega)) ((O3l5.out.rd msgC_len).more (by omega))).mono ?_
  rintro e w6 ⟨rfl, hb⟩
  have C : Chg 0 0 w5 w6 := by exact Chg.of_below hb
  clear hb
  have hs6 := C.size
  have B6 : Hid (Below w.heap.size w w6) := Lib.hid (B5.out.trans (C.under (B := w.heap.size) (by omega) (by omega)))
  clear B5
  have ym6 : ∀ o, w6.cell? ⟨w.heap.size + 1, o, none⟩ = _ := fun o => (C.cell (k := w.heap.size + 1) (by omega) (by omega)).trans (ym5 o)
  clear ym5
  have ya6 : ∀ o, w6.cell? ⟨w.heap.size, o, none⟩ = _ := fun o => (C.cell (k := w.heap.size) (by omega) (by omega)).trans (ya5 o)
  clear ya5
  have yh6 : ∀ o, w6.cell? ⟨q3, o, none⟩ = _ := fun o => (C.cell (k := q3) (by omega) (by omega)).trans (yh5 o)
  clear yh5
  have yx6 : ∀ o, w6.cell? ⟨w4.heap.size, o, none⟩ = _ := fun o => (C.cell (k := w4.heap.size) (by omega) (by omega)).trans (yx5 o)
  clear yx5
  have yg6 : ∀ o, w6.cell? ⟨q5, o, none⟩ = _ := fun o => (C.cell (k := q5) (by omega) (by omega)).trans (yg5 o)
  clear yg5
  have O3l6 := Lib.hid (O3l5.out.chg C (by omega))
  clear O3l5
  have O3o6 := Lib.hid (O3o5.out.chg C (by omega))
  clear O3o5
  have O46 := Lib.hid (O45.out.chg C (by omega))
  clear O45
  have O5l6 := Lib.hid (O5l5.out.chg C (by omega))
  clear O5l5
  have O5o6 := Lib.hid (O5o5.out.chg C (by omega))
  clear O5o5
  clear C
  go_wp2_with fail
  refine (eqNMsgS_same D5 r.1.o.length d5 D3 d3 r.1.o _ ((O5o6.out.rd msgC_len).more (by omega)) ((O3o6.out.rd msgC_len).more (by omega))).mono ?_
  rintro e w6p ⟨rfl, hb⟩
  have C : Chg 0 0 w6 w6p := by exact Chg.of_below hb
  clear hb
  have hs7 := C.size
  have B7 : Hid (Below w.heap.size w w6p) := Lib.hid (B6.out.trans (C.under (B := w.heap.size) (by omega) (by omega)))
  clear B6
  have ym7 : ∀ o, w6p.cell? ⟨w.heap.size + 1, o, none⟩ = _ := fun o => (C.cell (k := w.heap.size + 1) (by omega) (by omega)).trans (ym6 o)
  clear ym6
  have ya7 : ∀ o, w6p.cell? ⟨w.heap.size, o, none⟩ = _ := fun o => (C.cell (k := w.heap.size) (by omega) (by omega)).trans (ya6 o)
  clear ya6
  have yh7 : ∀ o, w6p.cell? ⟨q3, o, none⟩ = _ := fun o => (C.cell (k := q3) (by omega) (by omega)).trans (yh6 o)
  clear yh6
  have yx7 : ∀ o, w6p.cell? ⟨w4.heap.size, o, none⟩ = _ := fun o => (C.cell (k := w4.heap.size) (by omega) (by omega)).trans (yx6 o)
  clear yx6
  have yg7 : ∀ o, w6p.cell? ⟨q5, o, none⟩ = _ := fun o => (C.cell (k := q5) (by omega) (by omega)).trans (yg6 o)
  clear yg6
  have O3l7 := Lib.hid (O3l6.out.chg C (by omega))
  clear O3l6
  have O3o7 := Lib.hid (O3o6.out.chg C (by omega))
  clear O3o6
  have O47 := Lib.hid (O46.out.chg C (by omega))
  clear O46
  have O5l7 := Lib.hid (O5l6.out.chg C (by omega))
  clear O5l6
  have O5o7 := Lib.hid (O5o6.out.chg C (by omega))
  clear O5o6
  clear C
  go_upto_region 10 with fail
  go_cut [62] (fun sx wx => sx = .bool false ∧ Below w6p.heap.size w6p wx)
  case first =>
    go_region_with (first
      | (go_at_call 9; (refine (toNode_any s A l.length c l _ (by exact ((HL.out.below B7.out (Nat.le_refl _)).more B7.out.size)) (by omega)).mono ?_); rintro e wr ⟨A6, c6, rfl, ho, hb6⟩; have hb6 : Below w6p.heap.size w6p wr := ⟨hb6.os, hb6.tape, hb6.output, hb6.size, hb6.block⟩; have R6 := Lib.hid (RdL.of_own HL.out.1 ho); clear ho; have z6 : ∀ o, wr.cell? ⟨w4.heap.size, o, none⟩ = _ := (fun o => (hb6.cell (p := ⟨w4.heap.size, o, none⟩) (by show w4.heap.size < w6p.heap.size; omega)).trans (yx7 o)); have R7 := Lib.hid ((O47.out.rd msgC_len).below hb6 (by show w4.heap.size ≤ w6p.heap.size; omega)); have G6 := Lib.hid hb6; clear hb6)
      | (go_at_call 11; (refine (eqNode_same s A4 l.length c4 A6 c6 l _ (by exact (R7.out.more (by have h6 : w6p.heap.size ≤ wr.heap.size := G6.out.size; omega))) (by exact R6.out)).mono ?_); rintro e ws ⟨rfl, hb7⟩; have G7 := Lib.hid hb7; clear hb7))
    all_goals
      go_wp2_with fail
      go_meet
      exact ⟨rfl, G6.out.trans (G7.out.mono G6.out.size)⟩
  case rest =>
  obtain ⟨rfl, hb⟩ := hcut
  obtain ⟨w7, hw7⟩ : ∃ q, q = wc := ⟨_, rfl⟩
  subst hw7
  have C : Chg 0 0 w6p w7 := Chg.of_below hb
  clear hb
  have hs8 := C.size
  have B8 : Hid (Below w.heap.size w w7) := Lib.hid (B7.out.trans (C.under (B := w.heap.size) (by omega) (by omega)))
  clear B7
  have ym8 : ∀ o, w7.cell? ⟨w.heap.size + 1, o, none⟩ = _ := fun o => (C.cell (k := w.heap.size + 1) (by omega) (by omega)).trans (ym7 o)
  clear ym7
  have ya8 : ∀ o, w7.cell? ⟨w.heap.size, o, none⟩ = _ := fun o => (C.cell (k := w.heap.size) (by omega) (by omega)).trans (ya7 o)
  clear ya7
  have yh8 : ∀ o, w7.cell? ⟨q3, o, none⟩ = _ := fun o => (C.cell (k := q3) (by omega) (by omega)).trans (yh7 o)
  clear yh7
  have yx8 : ∀ o, w7.cell? ⟨w4.heap.size, o, none⟩ = _ := fun o => (C.cell (k := w4.heap.size) (by omega) (by omega)).trans (yx7 o)
  clear yx7
  have yg8 : ∀ o, w7.cell? ⟨q5, o, none⟩ = _ := fun o => (C.cell (k := q5) (by omega) (by omega)).trans (yg7 o)
  clear yg7
  have O3l8 := Lib.hid (O3l7.out.chg C (by omega))
  clear O3l7
  have O3o8 := Lib.hid (O3o7.out.chg C (by omega))
  clear O3o7
  have O48 := Lib.hid (O47.out.chg C (by omega))
  clear O47
  have O5l8 := Lib.hid (O5l7.out.chg C (by omega))
  clear O5l7
  have O5o8 := Lib.hid (O5o7.out.chg C (by omega))
  clear O5o7
  clear C
  go_wp2_with fail
  refine (markNode_any s A4 l.length c4 l _ w4.heap.size 1 _ O48.out (by omega) (by decide) (by omega) (by decide)).mono ?_
  rintro e w8 ⟨rfl, ho, C⟩
  have HO := Lib.hid ho
  clear ho
  clear O48
  have hs9 := C.size
  have B9 : Hid (Below w.heap.size w w8) := Lib.hid (B8.out.trans (C.under (B := w.heap.size) (by omega) (by omega)))
  clear B8
  have ym9 : ∀ o, w8.cell? ⟨w.heap.size + 1, o, none⟩ = _ := fun o => (C.cell (k := w.heap.size + 1) (by omega) (by omega)).trans (ym8 o)
  clear ym8
  have ya9 : ∀ o, w8.cell? ⟨w.heap.size, o, none⟩ = _ := fun o => (C.cell (k := w.heap.size) (by omega) (by omega)).trans (ya8 o)
  clear ya8
  have yh9 : ∀ o, w8.cell? ⟨q3, o, none⟩ = _ := fun o => (C.cell (k := q3) (by omega) (by omega)).trans (yh8 o)
  clear yh8
  have yx9 : ∀ o, w8.cell? ⟨w4.heap.size, o, none⟩ = _ := fun o => (C.cell (k := w4.heap.size) (by omega) (by omega)).trans (yx8 o)
  clear yx8
  have yg9 : ∀ o, w8.cell? ⟨q5, o, none⟩ = _ := fun o => (C.cell (k := q5) (by omega) (by omega)).trans (yg8 o)
  clear yg8
  have O3l9 := Lib.hid (O3l8.out.chg C (by omega))
  clear O3l8
  have O3o9 := Lib.hid (O3o8.out.chg C (by omega))
  clear O3o8
  have O5l9 := Lib.hid (O5l8.out.chg C (by omega))
  clear O5l8
  have O5o9 := Lib.hid (O5o8.out.chg C (by omega))
  clear O5o8
  clear C
  have O49 := HO
  clear HO
  clear O49
  go_wp2_with fail
  refine (eqNode_same r.1.s A5 r.1.l.length c5 A3 c3 r.1.l _ ((O5l9.out.rd msgC_len).more (by omega)) ((O3l9.out.rd msgC_len).more (by omega))).mono ?_
  rintro e w9 ⟨rfl, hb⟩
  have C : Chg 0 0 w8 w9 := by exact Chg.of_below hb
  clear hb
  have hs10 := C.size
  have B10 : Hid (Below w.heap.size w w9) := Lib.hid (B9.out.trans (C.under (B := w.heap.size) (by omega) (by omega)))
  clear B9
  have ym10 : ∀ o, w9.cell? ⟨w.heap.size + 1, o, none⟩ = _ := fun o => (C.cell (k := w.heap.size + 1) (by omega) (by omega)).trans (ym9 o)
  clear ym9
  have ya10 : ∀ o, w9.cell? ⟨w.heap.size, o, none⟩ = _ := fun o => (C.cell (k := w.heap.size) (by omega) (by omega)).trans (ya9 o)
  clear ya9
  have yh10 : ∀ o, w9.cell? ⟨q3, o, none⟩ = _ := fun o => (C.cell (k := q3) (by omega) (by omega)).trans (yh9 o)
  clear yh9
  have yx10 : ∀ o, w9.cell? ⟨w4.heap.size, o, none⟩ = _ := fun o => (C.cell (k := w4.heap.size) (by omega) (by omega)).trans (yx9 o)
  clear yx9
  have yg10 : ∀ o, w9.cell? ⟨q5, o, none⟩ = _ := fun o => (C.cell (k := q5) (by omega) (by omega)).trans (yg9 o)
  clear yg9
  have O3l10 := Lib.hid (O3l9.out.chg C (by omega))
  clear O3l9
  have O3o10 := Lib.hid (O3o9.out.chg C (by omega))
  clear O3o9
  have O5l10 := Lib.hid (O5l9.out.chg C (by omega))
  clear O5l9
  have O5o10 := Lib.hid (O5o9.out.chg C (by omega))
  clear O5o9
  clear C
  go_wp2_with fail
  refine (eqNMsgS_same D5 r.1.o.length d5 D3 d3 r.1.o _ ((O5o10.out.rd msgC_len).more (by omega)) ((O3o10.out.rd msgC_len).more (by omega))).mono ?_
  rintro e w9p ⟨rfl, hb⟩
  have C : Chg 0 0 w9 w9p := by exact Chg.of_below hb
  clear hb
  have hs11 := C.size
  have B11 : Hid (Below w.heap.size w w9p) := Lib.hid (B10.out.trans (C.under (B := w.heap.size) (by omega) (by omega)))
  clear B10
  have ym11 : ∀ o, w9p.cell? ⟨w.heap.size + 1, o, none⟩ = _ := fun o => (C.cell (k := w.heap.size + 1) (by omega) (by omega)).trans (ym10 o)
  clear ym10
  have ya11 : ∀ o, w9p.cell? ⟨w.heap.size, o, none⟩ = _ := fun o => (C.cell (k := w.heap.size) (by omega) (by omega)).trans (ya10 o)
  clear ya10
  have yh11 : ∀ o, w9p.cell? ⟨q3, o, none⟩ = _ := fun o => (C.cell (k := q3) (by omega) (by omega)).trans (yh10 o)
  clear yh10
  have yx11 : ∀ o, w9p.cell? ⟨w4.heap.size, o, none⟩ = _ := fun o => (C.cell (k := w4.heap.size) (by omega) (by omega)).trans (yx10 o)
  clear yx10
  have yg11 : ∀ o, w9p.cell? ⟨q5, o, none⟩ = _ := fun o => (C.cell (k := q5) (by omega) (by omega)).trans (yg10 o)
  clear yg10
  have O3l11 := Lib.hid (O3l10.out.chg C (by omega))
  clear O3l10
  have O3o11 := Lib.hid (O3o10.out.chg C (by omega))
  clear O3o10
  have O5l11 := Lib.hid (O5l10.out.chg C (by omega))
  clear O5l10
  have O5o11 := Lib.hid (O5o10.out.chg C (by omega))
  clear O5o10
  clear C
  go_wp2_with fail
  refine (markNode_any r.1.s A5 r.1.l.length c5 r.1.l a15 b15 1 _ O5l11.out (by omega) (by decide) (by omega) (by decide)).mono ?_
  rintro e w10 ⟨rfl, ho, C⟩
  have HO := Lib.hid ho
  clear ho
  clear O5l11
  have hs12 := C.size
  have B12 : Hid (Below w.heap.size w w10) := Lib.hid (B11.out.trans (C.under (B := w.heap.size) (by omega) (by omega)))
  clear B11
  have ym12 : ∀ o, w10.cell? ⟨w.heap.size + 1, o, none⟩ = _ := fun o => (C.cell (k := w.heap.size + 1) (by omega) (by omega)).trans (ym11 o)
  clear ym11
  have ya12 : ∀ o, w10.cell? ⟨w.heap.size, o, none⟩ = _ := fun o => (C.cell (k := w.heap.size) (by omega) (by omega)).trans (ya11 o)
  clear ya11
  have yh12 : ∀ o, w10.cell? ⟨q3, o, none⟩ = _ := fun o => (C.cell (k := q3) (by omega) (by omega)).trans (yh11 o)
  clear yh11
  have yx12 : ∀ o, w10.cell? ⟨w4.heap.size, o, none⟩ = _ := fun o => (C.cell (k := w4.heap.size) (by omega) (by omega)).trans (yx11 o)
  clear yx11
  have yg12 : ∀ o, w10.cell? ⟨q5, o, none⟩ = _ := fun o => (C.cell (k := q5) (by omega) (by omega)).trans (yg11 o)
  clear yg11
  have O3l12 := Lib.hid (O3l11.out.chg C (by omega))
  clear O3l11
  have O3o12 := Lib.hid (O3o11.out.chg C (by omega))
  clear O3o11
  have O5o12 := Lib.hid (O5o11.out.chg C (by omega))
  clear O5o11
  clear C
  have O5l12 := HO
  clear HO
  go_wp2_with fail
  refine (markNMsgS_any 40 D5 r.1.o.length d5 r.1.o a25 b25 (1 + r.1.l.length * 5) _ O5o12.out (by omega) (by omega) (by omega)).mono ?_
  rintro e w11 ⟨rfl, ho, C⟩
  have HO := Lib.hid ho
  clear ho
  clear O5o12
  have hs13 := C.size
  have B13 : Hid (Below w.heap.size w w11) := Lib.hid (B12.out.trans (C.under (B := w.heap.size) (by omega) (by omega)))
  clear B12
  have ym13 : ∀ o, w11.cell? ⟨w.heap.size + 1, o, none⟩ = _ := fun o => (C.cell (k := w.heap.size + 1) (by omega) (by omega)).trans (ym12 o)
  clear ym12
  have ya13 : ∀ o, w11.cell? ⟨w.heap.size, o, none⟩ = _ := fun o => (C.cell (k := w.heap.size) (by omega) (by omega)).trans (ya12 o)
  clear ya12
  have yh13 : ∀ o, w11.cell? ⟨q3, o, none⟩ = _ := fun o => (C.cell (k := q3) (by omega) (by omega)).trans (yh12 o)
  clear yh12
  have yx13 : ∀ o, w11.cell? ⟨w4.heap.size, o, none⟩ = _ := fun o => (C.cell (k := w4.heap.size) (by omega) (by omega)).trans (yx12 o)
  clear yx12
  have yg13 : ∀ o, w11.cell? ⟨q5, o, none⟩ = _ := fun o => (C.cell (k := q5) (by omega) (by omega)).trans (yg12 o)
  clear yg12
  have O3l13 := Lib.hid (O3l12.out.chg C (by omega))
  clear O3l12
  have O3o13 := Lib.hid (O3o12.out.chg C (by omega))
  clear O3o12
  have O5l13 := Lib.hid (O5l12.out.chg C (by omega))
  clear O5l12
  clear C
  have O5o13 := HO
  clear HO
  go_wp2_with fail
  refine (heldNode_any r.1.s A5 r.1.l.length c5 1 _ ((O5l13.out.rd msgC_len).more (by omega)) (by decide) (by omega) (by decide)).mono ?_
  rintro e w12 ⟨rfl, hb⟩
  have C : Chg 0 0 w11 w12 := by exact Chg.of_below hb
  clear hb
  have hs14 := C.size
  have B14 : Hid (Below w.heap.size w w12) := Lib.hid (B13.out.trans (C.under (B := w.heap.size) (by omega) (by omega)))
  clear B13
  have ym14 : ∀ o, w12.cell? ⟨w.heap.size + 1, o, none⟩ = _ := fun o => (C.cell (k := w.heap.size + 1) (by omega) (by omega)).trans (ym13 o)
  clear ym13
  have ya14 : ∀ o, w12.cell? ⟨w.heap.size, o, none⟩ = _ := fun o => (C.cell (k := w.heap.size) (by omega) (by omega)).trans (ya13 o)
  clear ya13
  have yh14 : ∀ o, w12.cell? ⟨q3, o, none⟩ = _ := fun o => (C.cell (k := q3) (by omega) (by omega)).trans (yh13 o)
  clear yh13
  have yx14 : ∀ o, w12.cell? ⟨w4.heap.size, o, none⟩ = _ := fun o => (C.cell (k := w4.heap.size) (by omega) (by omega)).trans (yx13 o)
  clear yx13
  have yg14 : ∀ o, w12.cell? ⟨q5, o, none⟩ = _ := fun o => (C.cell (k := q5) (by omega) (by omega)).trans (yg13 o)
  clear yg13
  have O3l14 := Lib.hid (O3l13.out.chg C (by omega))
  clear O3l13
  have O3o14 := Lib.hid (O3o13.out.chg C (by omega))
  clear O3o13
  have O5l14 := Lib.hid (O5l13.out.chg C (by omega))
  clear O5l13
  have O5o14 := Lib.hid (O5o13.out.chg C (by omega))
  clear O5o13
  clear C
  have hp12 : ¬ ((1 + r.1.l.length * 5 : Nat) : Int) < 0 := by omega
  go_wp2_with fail
  refine (heldNMsgS_any D5 r.1.o.length d5 (1 + r.1.l.length * 5) _ ((O5o14.out.rd msgC_len).more (by omega)) (by omega) (by omega) (by omega)).mono ?_
  rintro e w12p ⟨rfl, hb⟩
  have C : Chg 0 0 w12 w12p := by exact Chg.of_below hb
  clear hb
  have hs15 := C.size
  have B15 : Hid (Below w.heap.size w w12p) := Lib.hid (B14.out.trans (C.under (B := w.heap.size) (by omega) (by omega)))
  clear B14
  have ym15 : ∀ o, w12p.cell? ⟨w.heap.size + 1, o, none⟩ = _ := fun o => (C.cell (k := w.heap.size + 1) (by omega) (by omega)).trans (ym14 o)
  clear ym14
  have ya15 : ∀ o, w12p.cell? ⟨w.heap.size, o, none⟩ = _ := fun o => (C.cell (k := w.heap.size) (by omega) (by omega)).trans (ya14 o)
  clear ya14
  have yh15 : ∀ o, w12p.cell? ⟨q3, o, none⟩ = _ := fun o => (C.cell (k := q3) (by omega) (by omega)).trans (yh14 o)
  clear yh14
  have yx15 : ∀ o, w12p.cell? ⟨w4.heap.size, o, none⟩ = _ := fun o => (C.cell (k := w4.heap.size) (by omega) (by omega)).trans (yx14 o)
  clear yx14
  have yg15 : ∀ o, w12p.cell? ⟨q5, o, none⟩ = _ := fun o => (C.cell (k := q5) (by omega) (by omega)).trans (yg14 o)
  clear yg14
  have O3l15 := Lib.hid (O3l14.out.chg C (by omega))
  clear O3l14
  have O3o15 := Lib.hid (O3o14.out.chg C (by omega))
  clear O3o14
  have O5l15 := Lib.hid (O5l14.out.chg C (by omega))
  clear O5l14
  have O5o15 := Lib.hid (O5o14.out.chg C (by omega))
  clear O5o14
  clear C
  have hp12p : ¬ ((1 + r.1.l.length * 5 + r.1.o.length * 5 : Nat) : Int) < 0 := by omega
  go_upto_region 28 with fail
  go_cut [16, 17, 18] (fun sp sk sb wx => ∃ q A c B d a1 b1 a2 b2, sp = .pointer (some ⟨q, 0, none⟩) ∧ sk = .slice B r.1.o.length d ∧ sb = .bool r.2 ∧ w12p.heap.size ≤ q ∧ Blk wx q 28 #[.int .i64 r.1.s.me, .int .i64 r.1.s.round, .int .i64 r.1.s.step, .int .i64 r.1.s.lv, .int .i64 r.1.s.lr, .int .i64 r.1.s.vv, .int .i64 r.1.s.vr, .int .i64 r.1.s.polka, .int .i64 r.1.s.dec, .slice A r.1.l.length c] ∧ OwnL msgC 5 40 wx a1 b1 A r.1.l.length c r.1.l ∧ OwnL msgC 5 40 wx a2 b2 B r.1.o.length d r.1.o ∧ (w12p.heap.size ≤ a1 ∧ a1 ≤ b1 ∧ b1 ≤ wx.heap.size ∧ w12p.heap.size ≤ a2 ∧ a2 ≤ b2 ∧ b2 ≤ wx.heap.size ∧ (b1 ≤ a2 ∨ b2 ≤ a1) ∧ (q < a1 ∨ b1 ≤ q) ∧ (q < a2 ∨ b2 ≤ q)) ∧ Below w12p.heap.size w12p wx)
  case first =>
    refine wp_region_core [0, 1, 2, 3, 4, 5, 6, 7, 8, 9, 10, 11] (Below w12p.heap.size w12p) (fun j wa wb => match j with | 10 => BoxTurn 28 wa wb | _ => Below wa.heap.size wa wb) (fun i b w => match i with
      | 0 => b.tmps.getD 105 undef = .agg #[.int .i64 s.me, .int .i64 s.round, .int .i64 s.step, .int .i64 s.lv, .int .i64 s.lr, .int .i64 s.vv, .int .i64 s.vr, .int .i64 s.polka, .int .i64 s.dec, .slice A l.length c]
      | 1 => ∃ A2 c2, b.tmps.getD 106 undef = .agg #[.int .i64 s.me, .int .i64 s.round, .int .i64 s.step, .int .i64 s.lv, .int .i64 s.lr, .int .i64 s.vv, .int .i64 s.vr, .int .i64 s.polka, .int .i64 s.dec, .slice A2 l.length c2] ∧ OwnL msgC 5 40 w w12p.heap.size w.heap.size A2 l.length c2 l
      | 2 => b.tmps.getD 107 undef = .agg #[.int .i64 m.k, .int .i64 m.r, .int .i64 m.v, .int .i64 m.p, .int .i64 m.f]
      | 3 => b.tmps.getD 108 undef = .agg #[.int .i64 m.k, .int .i64 m.r, .int .i64 m.v, .int .i64 m.p, .int .i64 m.f]
      | 4 => ∃ A c B d, b.tmps.getD 109 undef = .tuple #[.agg #[.int .i64 r.1.s.me, .int .i64 r.1.s.round, .int .i64 r.1.s.step, .int .i64 r.1.s.lv, .int .i64 r.1.s.lr, .int .i64 r.1.s.vv, .int .i64 r.1.s.vr, .int .i64 r.1.s.polka, .int .i64 r.1.s.dec, .slice A r.1.l.length c], .slice B r.1.o.length d, .bool r.2] ∧ Rows w (fun q => q < w12p.heap.size) A c B d r.1
      | 5 => ∃ A c B d, b.tmps.getD 104 undef = .tuple #[.agg #[.int .i64 r.1.s.me, .int .i64 r.1.s.round, .int .i64 r.1.s.step, .int .i64 r.1.s.lv, .int .i64 r.1.s.lr, .int .i64 r.1.s.vv, .int .i64 r.1.s.vr, .int .i64 r.1.s.polka, .int .i64 r.1.s.dec, .slice A r.1.l.length c], .slice B r.1.o.length d, .bool r.2] ∧ Rows w (fun q => q < w12p.heap.size) A c B d r.1
      | 6 => ∃ A c B d, b.tmps.getD 104 undef = .tuple #[.agg #[.int .i64 r.1.s.me, .int .i64 r.1.s.round, .int .i64 r.1.s.step, .int .i64 r.1.s.lv, .int .i64 r.1.s.lr, .int .i64 r.1.s.vv, .int .i64 r.1.s.vr, .int .i64 r.1.s.polka, .int .i64 r.1.s.dec, .slice A r.1.l.length c], .slice B r.1.o.length d, .bool r.2] ∧ b.tmps.getD 110 undef = .agg #[.int .i64 r.1.s.me, .int .i64 r.1.s.round, .int .i64 r.1.s.step, .int .i64 r.1.s.lv, .int .i64 r.1.s.lr, .int .i64 r.1.s.vv, .int .i64 r.1.s.vr, .int .i64 r.1.s.polka, .int .i64 r.1.s.dec, .slice A r.1.l.length c] ∧ Rows w (fun q => q < w12p.heap.size) A c B d r.1
      | 7 => ∃ A c B d, b.tmps.getD 104 undef = .tuple #[.agg #[.int .i64 r.1.s.me, .int .i64 r.1.s.round, .int .i64 r.1.s.step, .int .i64 r.1.s.lv, .int .i64 r.1.s.lr, .int .i64 r.1.s.vv, .int .i64 r.1.s.vr, .int .i64 r.1.s.polka, .int .i64 r.1.s.dec, .slice A r.1.l.length c], .slice B r.1.o.length d, .bool r.2] ∧ b.tmps.getD 111 undef = .slice B r.1.o.length d ∧ Rows w (fun q => q < w12p.heap.size) A c B d r.1
      | 8 => b.tmps.getD 112 undef = .bool r.2
      | 9 => ∃ q cs, b.tmps.getD 16 undef = .pointer (some ⟨q, 0, none⟩) ∧ w12p.heap.size ≤ q ∧ cs.size = 10 ∧ Blk w q 28 cs
      | 10 => ∃ q A c, b.tmps.getD 16 undef = .pointer (some ⟨q, 0, none⟩) ∧ b.tmps.getD 110 undef = .agg #[.int .i64 r.1.s.me, .int .i64 r.1.s.round, .int .i64 r.1.s.step, .int .i64 r.1.s.lv, .int .i64 r.1.s.lr, .int .i64 r.1.s.vv, .int .i64 r.1.s.vr, .int .i64 r.1.s.polka, .int .i64 r.1.s.dec, .slice A r.1.l.length c] ∧ w12p.heap.size ≤ q ∧ Blk w q 28 #[.int .i64 r.1.s.me, .int .i64 r.1.s.round, .int .i64 r.1.s.step, .int .i64 r.1.s.lv, .int .i64 r.1.s.lr, .int .i64 r.1.s.vv, .int .i64 r.1.s.vr, .int .i64 r.1.s.polka, .int .i64 r.1.s.dec, .slice A r.1.l.length c]
      | 11 => ∃ B d, b.tmps.getD 111 undef = .slice B r.1.o.length d ∧ b.tmps.getD 17 undef = .slice B r.1.o.length d
      | _ => True) (by kernel_rfl) (by kernel_rfl) ((Below.refl _ _).drew) ?_ ?_ ?_
    · intro b wa wb i j oj v hi hj hij hoj hdep hE h
      simp only [List.mem_cons, List.not_mem_nil, or_false] at hi hj
      rcases hj with rfl | rfl | rfl | rfl | rfl | rfl | rfl | rfl | rfl | rfl | rfl | rfl
      all_goals obtain rfl := Option.some.inj hoj
      · rcases hi with rfl | rfl | rfl | rfl | rfl | rfl | rfl | rfl | rfl | rfl | rfl | rfl
        all_goals first | exact absurd rfl hij | (simp only at hE h ⊢; first | exact getk h (by decide) | (obtain ⟨A, c, e, h⟩ := h; first | exact ⟨A, c, getk e (by decide), (h.below hE (Nat.le_refl _)).wide (Nat.le_refl _) hE.size⟩ | exact ⟨A, c, getk e (by decide), hE.row (by decide) h⟩) | (obtain ⟨A, c, B, d, e, h⟩ := h; first | exact ⟨A, c, B, d, getk e (by decide), h.below hE⟩ | exact ⟨A, c, B, d, getk e (by decide), h.turn hE⟩) | (obtain ⟨A, c, B, d, e, e2, h⟩ := h; first | exact ⟨A, c, B, d, getk e (by decide), getk e2 (by decide), h.below hE⟩ | exact ⟨A, c, B, d, getk e (by decide), getk e2 (by decide), h.turn hE⟩) | (obtain ⟨q, cs, e, h1, h2, h3⟩ := h; first | exact ⟨q, cs, getk e (by decide), h1, h2, h3.below hE h3.lt⟩ | (obtain ⟨cs', g1, g2⟩ := hE.box h3; exact ⟨q, cs', getk e (by decide), h1, g1.trans h2, g2⟩)) | (obtain ⟨B, d, e, e2⟩ := h; exact ⟨B, d, getk e (by decide), getk e2 (by decide)⟩) | (obtain ⟨q, A, c, e, e2, h1, h2⟩ := h; exact ⟨q, A, c, getk e (by decide), getk e2 (by decide), h1, h2.below hE h2.lt⟩)) | exact absurd rfl (hdep _ rfl ⟨0, .data⟩ (by simp) rfl)
      · rcases hi with rfl | rfl | rfl | rfl | rfl | rfl | rfl | rfl | rfl | rfl | rfl | rfl
        all_goals first | exact absurd rfl hij | (simp only at hE h ⊢; first | exact getk h (by decide) | (obtain ⟨A, c, e, h⟩ := h; first | exact ⟨A, c, getk e (by decide), (h.below hE (Nat.le_refl _)).wide (Nat.le_refl _) hE.size⟩ | exact ⟨A, c, getk e (by decide), hE.row (by decide) h⟩) | (obtain ⟨A, c, B, d, e, h⟩ := h; first | exact ⟨A, c, B, d, getk e (by decide), h.below hE⟩ | exact ⟨A, c, B, d, getk e (by decide), h.turn hE⟩) | (obtain ⟨A, c, B, d, e, e2, h⟩ := h; first | exact ⟨A, c, B, d, getk e (by decide), getk e2 (by decide), h.below hE⟩ | exact ⟨A, c, B, d, getk e (by decide), getk e2 (by decide), h.turn hE⟩) | (obtain ⟨q, cs, e, h1, h2, h3⟩ := h; first | exact ⟨q, cs, getk e (by decide), h1, h2, h3.below hE h3.lt⟩ | (obtain ⟨cs', g1, g2⟩ := hE.box h3; exact ⟨q, cs', getk e (by decide), h1, g1.trans h2, g2⟩)) | (obtain ⟨B, d, e, e2⟩ := h; exact ⟨B, d, getk e (by decide), getk e2 (by decide)⟩) | (obtain ⟨q, A, c, e, e2, h1, h2⟩ := h; exact ⟨q, A, c, getk e (by decide), getk e2 (by decide), h1, h2.below hE h2.lt⟩)) | exact absurd rfl (hdep _ rfl ⟨1, .data⟩ (by simp) rfl)
      · rcases hi with rfl | rfl | rfl | rfl | rfl | rfl | rfl | rfl | rfl | rfl | rfl | rfl
        all_goals first | exact absurd rfl hij | (simp only at hE h ⊢; first | exact getk h (by decide) | (obtain ⟨A, c, e, h⟩ := h; first | exact ⟨A, c, getk e (by decide), (h.below hE (Nat.le_refl _)).wide (Nat.le_refl _) hE.size⟩ | exact ⟨A, c, getk e (by decide), hE.row (by decide) h⟩) | (obtain ⟨A, c, B, d, e, h⟩ := h; first | exact ⟨A, c, B, d, getk e (by decide), h.below hE⟩ | exact ⟨A, c, B, d, getk e (by decide), h.turn hE⟩) | (obtain ⟨A, c, B, d, e, e2, h⟩ := h; first | exact ⟨A, c, B, d, getk e (by decide), getk e2 (by decide), h.below hE⟩ | exact ⟨A, c, B, d, getk e (by decide), getk e2 (by decide), h.turn hE⟩) | (obtain ⟨q, cs, e, h1, h2, h3⟩ := h; first | exact ⟨q, cs, getk e (by decide), h1, h2, h3.below hE h3.lt⟩ | (obtain ⟨cs', g1, g2⟩ := hE.box h3; exact ⟨q, cs', getk e (by decide), h1, g1.trans h2, g2⟩)) | (obtain ⟨B, d, e, e2⟩ := h; exact ⟨B, d, getk e (by decide), getk e2 (by decide)⟩) | (obtain ⟨q, A, c, e, e2, h1, h2⟩ := h; exact ⟨q, A, c, getk e (by decide), getk e2 (by decide), h1, h2.below hE h2.lt⟩)) | exact absurd rfl (hdep _ rfl ⟨2, .data⟩ (by simp) rfl)
      · rcases hi with rfl | rfl | rfl | rfl | rfl | rfl | rfl | rfl | rfl | rfl | rfl | rfl
        all_goals first | exact absurd rfl hij | (simp only at hE h ⊢; first | exact getk h (by decide) | (obtain ⟨A, c, e, h⟩ := h; first | exact ⟨A, c, getk e (by decide), (h.below hE (Nat.le_refl _)).wide (Nat.le_refl _) hE.size⟩ | exact ⟨A, c, getk e (by decide), hE.row (by decide) h⟩) | (obtain ⟨A, c, B, d, e, h⟩ := h; first | exact ⟨A, c, B, d, getk e (by decide), h.below hE⟩ | exact ⟨A, c, B, d, getk e (by decide), h.turn hE⟩) | (obtain ⟨A, c, B, d, e, e2, h⟩ := h; first | exact ⟨A, c, B, d, getk e (by decide), getk e2 (by decide), h.below hE⟩ | exact ⟨A, c, B, d, getk e (by decide), getk e2 (by decide), h.turn hE⟩) | (obtain ⟨q, cs, e, h1, h2, h3⟩ := h; first | exact ⟨q, cs, getk e (by decide), h1, h2, h3.below hE h3.lt⟩ | (obtain ⟨cs', g1, g2⟩ := hE.box h3; exact ⟨q, cs', getk e (by decide), h1, g1.trans h2, g2⟩)) | (obtain ⟨B, d, e, e2⟩ := h; exact ⟨B, d, getk e (by decide), getk e2 (by decide)⟩) | (obtain ⟨q, A, c, e, e2, h1, h2⟩ := h; exact ⟨q, A, c, getk e (by decide), getk e2 (by decide), h1, h2.below hE h2.lt⟩)) | exact absurd rfl (hdep _ rfl ⟨3, .data⟩ (by simp) rfl)
      · rcases hi with rfl | rfl | rfl | rfl | rfl | rfl | rfl | rfl | rfl | rfl | rfl | rfl
        all_goals first | exact absurd rfl hij | (simp only at hE h ⊢; first | exact getk h (by decide) | (obtain ⟨A, c, e, h⟩ := h; first | exact ⟨A, c, getk e (by decide), (h.below hE (Nat.le_refl _)).wide (Nat.le_refl _) hE.size⟩ | exact ⟨A, c, getk e (by decide), hE.row (by decide) h⟩) | (obtain ⟨A, c, B, d, e, h⟩ := h; first | exact ⟨A, c, B, d, getk e (by decide), h.below hE⟩ | exact ⟨A, c, B, d, getk e (by decide), h.turn hE⟩) | (obtain ⟨A, c, B, d, e, e2, h⟩ := h; first | exact ⟨A, c, B, d, getk e (by decide), getk e2 (by decide), h.below hE⟩ | exact ⟨A, c, B, d, getk e (by decide), getk e2 (by decide), h.turn hE⟩) | (obtain ⟨q, cs, e, h1, h2, h3⟩ := h; first | exact ⟨q, cs, getk e (by decide), h1, h2, h3.below hE h3.lt⟩ | (obtain ⟨cs', g1, g2⟩ := hE.box h3; exact ⟨q, cs', getk e (by decide), h1, g1.trans h2, g2⟩)) | (obtain ⟨B, d, e, e2⟩ := h; exact ⟨B, d, getk e (by decide), getk e2 (by decide)⟩) | (obtain ⟨q, A, c, e, e2, h1, h2⟩ := h; exact ⟨q, A, c, getk e (by decide), getk e2 (by decide), h1, h2.below hE h2.lt⟩)) | exact absurd rfl (hdep _ rfl ⟨4, .data⟩ (by simp) rfl)
      · rcases hi with rfl | rfl | rfl | rfl | rfl | rfl | rfl | rfl | rfl | rfl | rfl | rfl
        all_goals first | exact absurd rfl hij | (simp only at hE h ⊢; first | exact getk h (by decide) | (obtain ⟨A, c, e, h⟩ := h; first | exact ⟨A, c, getk e (by decide), (h.below hE (Nat.le_refl _)).wide (Nat.le_refl _) hE.size⟩ | exact ⟨A, c, getk e (by decide), hE.row (by decide) h⟩) | (obtain ⟨A, c, B, d, e, h⟩ := h; first | exact ⟨A, c, B, d, getk e (by decide), h.below hE⟩ | exact ⟨A, c, B, d, getk e (by decide), h.turn hE⟩) | (obtain ⟨A, c, B, d, e, e2, h⟩ := h; first | exact ⟨A, c, B, d, getk e (by decide), getk e2 (by decide), h.below hE⟩ | exact ⟨A, c, B, d, getk e (by decide), getk e2 (by decide), h.turn hE⟩) | (obtain ⟨q, cs, e, h1, h2, h3⟩ := h; first | exact ⟨q, cs, getk e (by decide), h1, h2, h3.below hE h3.lt⟩ | (obtain ⟨cs', g1, g2⟩ := hE.box h3; exact ⟨q, cs', getk e (by decide), h1, g1.trans h2, g2⟩)) | (obtain ⟨B, d, e, e2⟩ := h; exact ⟨B, d, getk e (by decide), getk e2 (by decide)⟩) | (obtain ⟨q, A, c, e, e2, h1, h2⟩ := h; exact ⟨q, A, c, getk e (by decide), getk e2 (by decide), h1, h2.below hE h2.lt⟩)) | exact absurd rfl (hdep _ rfl ⟨5, .data⟩ (by simp) rfl)
      · rcases hi with rfl | rfl | rfl | rfl | rfl | rfl | rfl | rfl | rfl | rfl | rfl | rfl
        all_goals first | exact absurd rfl hij | (simp only at hE h ⊢; first | exact getk h (by decide) | (obtain ⟨A, c, e, h⟩ := h; first | exact ⟨A, c, getk e (by decide), (h.below hE (Nat.le_refl _)).wide (Nat.le_refl _) hE.size⟩ | exact ⟨A, c, getk e (by decide), hE.row (by decide) h⟩) | (obtain ⟨A, c, B, d, e, h⟩ := h; first | exact ⟨A, c, B, d, getk e (by decide), h.below hE⟩ | exact ⟨A, c, B, d, getk e (by decide), h.turn hE⟩) | (obtain ⟨A, c, B, d, e, e2, h⟩ := h; first | exact ⟨A, c, B, d, getk e (by decide), getk e2 (by decide), h.below hE⟩ | exact ⟨A, c, B, d, getk e (by decide), getk e2 (by decide), h.turn hE⟩) | (obtain ⟨q, cs, e, h1, h2, h3⟩ := h; first | exact ⟨q, cs, getk e (by decide), h1, h2, h3.below hE h3.lt⟩ | (obtain ⟨cs', g1, g2⟩ := hE.box h3; exact ⟨q, cs', getk e (by decide), h1, g1.trans h2, g2⟩)) | (obtain ⟨B, d, e, e2⟩ := h; exact ⟨B, d, getk e (by decide), getk e2 (by decide)⟩) | (obtain ⟨q, A, c, e, e2, h1, h2⟩ := h; exact ⟨q, A, c, getk e (by decide), getk e2 (by decide), h1, h2.below hE h2.lt⟩)) | exact absurd rfl (hdep _ rfl ⟨6, .data⟩ (by simp) rfl)
      · rcases hi with rfl | rfl | rfl | rfl | rfl | rfl | rfl | rfl | rfl | rfl | rfl | rfl
        all_goals first | exact absurd rfl hij | (simp only at hE h ⊢; first | exact getk h (by decide) | (obtain ⟨A, c, e, h⟩ := h; first | exact ⟨A, c, getk e (by decide), (h.below hE (Nat.le_refl _)).wide (Nat.le_refl _) hE.size⟩ | exact ⟨A, c, getk e (by decide), hE.row (by decide) h⟩) | (obtain ⟨A, c, B, d, e, h⟩ := h; first | exact ⟨A, c, B, d, getk e (by decide), h.below hE⟩ | exact ⟨A, c, B, d, getk e (by decide), h.turn hE⟩) | (obtain ⟨A, c, B, d, e, e2, h⟩ := h; first | exact ⟨A, c, B, d, getk e (by decide), getk e2 (by decide), h.below hE⟩ | exact ⟨A, c, B, d, getk e (by decide), getk e2 (by decide), h.turn hE⟩) | (obtain ⟨q, cs, e, h1, h2, h3⟩ := h; first | exact ⟨q, cs, getk e (by decide), h1, h2, h3.below hE h3.lt⟩ | (obtain ⟨cs', g1, g2⟩ := hE.box h3; exact ⟨q, cs', getk e (by decide), h1, g1.trans h2, g2⟩)) | (obtain ⟨B, d, e, e2⟩ := h; exact ⟨B, d, getk e (by decide), getk e2 (by decide)⟩) | (obtain ⟨q, A, c, e, e2, h1, h2⟩ := h; exact ⟨q, A, c, getk e (by decide), getk e2 (by decide), h1, h2.below hE h2.lt⟩)) | exact absurd rfl (hdep _ rfl ⟨7, .data⟩ (by simp) rfl)
      · rcases hi with rfl | rfl | rfl | rfl | rfl | rfl | rfl | rfl | rfl | rfl | rfl | rfl
        all_goals first | exact absurd rfl hij | (simp only at hE h ⊢; first | exact getk h (by decide) | (obtain ⟨A, c, e, h⟩ := h; first | exact ⟨A, c, getk e (by decide), (h.below hE (Nat.le_refl _)).wide (Nat.le_refl _) hE.size⟩ | exact ⟨A, c, getk e (by decide), hE.row (by decide) h⟩) | (obtain ⟨A, c, B, d, e, h⟩ := h; first | exact ⟨A, c, B, d, getk e (by decide), h.below hE⟩ | exact ⟨A, c, B, d, getk e (by decide), h.turn hE⟩) | (obtain ⟨A, c, B, d, e, e2, h⟩ := h; first | exact ⟨A, c, B, d, getk e (by decide), getk e2 (by decide), h.below hE⟩ | exact ⟨A, c, B, d, getk e (by decide), getk e2 (by decide), h.turn hE⟩) | (obtain ⟨q, cs, e, h1, h2, h3⟩ := h; first | exact ⟨q, cs, getk e (by decide), h1, h2, h3.below hE h3.lt⟩ | (obtain ⟨cs', g1, g2⟩ := hE.box h3; exact ⟨q, cs', getk e (by decide), h1, g1.trans h2, g2⟩)) | (obtain ⟨B, d, e, e2⟩ := h; exact ⟨B, d, getk e (by decide), getk e2 (by decide)⟩) | (obtain ⟨q, A, c, e, e2, h1, h2⟩ := h; exact ⟨q, A, c, getk e (by decide), getk e2 (by decide), h1, h2.below hE h2.lt⟩)) | exact absurd rfl (hdep _ rfl ⟨8, .data⟩ (by simp) rfl)
      · rcases hi with rfl | rfl | rfl | rfl | rfl | rfl | rfl | rfl | rfl | rfl | rfl | rfl
        all_goals first | exact absurd rfl hij | (simp only at hE h ⊢; first | exact getk h (by decide) | (obtain ⟨A, c, e, h⟩ := h; first | exact ⟨A, c, getk e (by decide), (h.below hE (Nat.le_refl _)).wide (Nat.le_refl _) hE.size⟩ | exact ⟨A, c, getk e (by decide), hE.row (by decide) h⟩) | (obtain ⟨A, c, B, d, e, h⟩ := h; first | exact ⟨A, c, B, d, getk e (by decide), h.below hE⟩ | exact ⟨A, c, B, d, getk e (by decide), h.turn hE⟩) | (obtain ⟨A, c, B, d, e, e2, h⟩ := h; first | exact ⟨A, c, B, d, getk e (by decide), getk e2 (by decide), h.below hE⟩ | exact ⟨A, c, B, d, getk e (by decide), getk e2 (by decide), h.turn hE⟩) | (obtain ⟨q, cs, e, h1, h2, h3⟩ := h; first | exact ⟨q, cs, getk e (by decide), h1, h2, h3.below hE h3.lt⟩ | (obtain ⟨cs', g1, g2⟩ := hE.box h3; exact ⟨q, cs', getk e (by decide), h1, g1.trans h2, g2⟩)) | (obtain ⟨B, d, e, e2⟩ := h; exact ⟨B, d, getk e (by decide), getk e2 (by decide)⟩) | (obtain ⟨q, A, c, e, e2, h1, h2⟩ := h; exact ⟨q, A, c, getk e (by decide), getk e2 (by decide), h1, h2.below hE h2.lt⟩)) | exact absurd rfl (hdep _ rfl ⟨9, .data⟩ (by simp) rfl)
      · rcases hi with rfl | rfl | rfl | rfl | rfl | rfl | rfl | rfl | rfl | rfl | rfl | rfl
        all_goals first | exact absurd rfl hij | (simp only at hE h ⊢; first | exact getk h (by decide) | (obtain ⟨A, c, e, h⟩ := h; first | exact ⟨A, c, getk e (by decide), (h.below hE (Nat.le_refl _)).wide (Nat.le_refl _) hE.size⟩ | exact ⟨A, c, getk e (by decide), hE.row (by decide) h⟩) | (obtain ⟨A, c, B, d, e, h⟩ := h; first | exact ⟨A, c, B, d, getk e (by decide), h.below hE⟩ | exact ⟨A, c, B, d, getk e (by decide), h.turn hE⟩) | (obtain ⟨A, c, B, d, e, e2, h⟩ := h; first | exact ⟨A, c, B, d, getk e (by decide), getk e2 (by decide), h.below hE⟩ | exact ⟨A, c, B, d, getk e (by decide), getk e2 (by decide), h.turn hE⟩) | (obtain ⟨q, cs, e, h1, h2, h3⟩ := h; first | exact ⟨q, cs, getk e (by decide), h1, h2, h3.below hE h3.lt⟩ | (obtain ⟨cs', g1, g2⟩ := hE.box h3; exact ⟨q, cs', getk e (by decide), h1, g1.trans h2, g2⟩)) | (obtain ⟨B, d, e, e2⟩ := h; exact ⟨B, d, getk e (by decide), getk e2 (by decide)⟩) | (obtain ⟨q, A, c, e, e2, h1, h2⟩ := h; exact ⟨q, A, c, getk e (by decide), getk e2 (by decide), h1, h2.below hE h2.lt⟩)) | exact absurd rfl (hdep _ rfl ⟨10, .data⟩ (by simp) rfl)
      · rcases hi with rfl | rfl | rfl | rfl | rfl | rfl | rfl | rfl | rfl | rfl | rfl | rfl
        all_goals first | exact absurd rfl hij | (simp only at hE h ⊢; first | exact getk h (by decide) | (obtain ⟨A, c, e, h⟩ := h; first | exact ⟨A, c, getk e (by decide), (h.below hE (Nat.le_refl _)).wide (Nat.le_refl _) hE.size⟩ | exact ⟨A, c, getk e (by decide), hE.row (by decide) h⟩) | (obtain ⟨A, c, B, d, e, h⟩ := h; first | exact ⟨A, c, B, d, getk e (by decide), h.below hE⟩ | exact ⟨A, c, B, d, getk e (by decide), h.turn hE⟩) | (obtain ⟨A, c, B, d, e, e2, h⟩ := h; first | exact ⟨A, c, B, d, getk e (by decide), getk e2 (by decide), h.below hE⟩ | exact ⟨A, c, B, d, getk e (by decide), getk e2 (by decide), h.turn hE⟩) | (obtain ⟨q, cs, e, h1, h2, h3⟩ := h; first | exact ⟨q, cs, getk e (by decide), h1, h2, h3.below hE h3.lt⟩ | (obtain ⟨cs', g1, g2⟩ := hE.box h3; exact ⟨q, cs', getk e (by decide), h1, g1.trans h2, g2⟩)) | (obtain ⟨B, d, e, e2⟩ := h; exact ⟨B, d, getk e (by decide), getk e2 (by decide)⟩) | (obtain ⟨q, A, c, e, e2, h1, h2⟩ := h; exact ⟨q, A, c, getk e (by decide), getk e2 (by decide), h1, h2.below hE h2.lt⟩)) | exact absurd rfl (hdep _ rfl ⟨11, .data⟩ (by simp) rfl)
    · intro j o hj ho a' w' hC hsame hdep
      have hz : w12p.heap.size ≤ w'.heap.size := hC.size
      simp only [List.mem_cons, List.not_mem_nil, or_false] at hj
      rcases hj with rfl | rfl | rfl | rfl | rfl | rfl | rfl | rfl | rfl | rfl | rfl | rfl
      all_goals obtain rfl := Option.some.inj ho
      · have hs : a'.tmps.getD 2 undef = .pointer (some ⟨w.heap.size, 0, none⟩) := hsame 2 (by rfl)
        have zz : ∀ o, w'.cell? ⟨w.heap.size, o, none⟩ = _ := fun o => (hC.cell (p := ⟨w.heap.size, o, none⟩) (by show w.heap.size < w12p.heap.size; omega)).trans (ya15 o)
        refine wp_val (w2 := w') (.agg #[.int .i64 s.me, .int .i64 s.round, .int .i64 s.step, .int .i64 s.lv, .int .i64 s.lr, .int .i64 s.vv, .int .i64 s.vr, .int .i64 s.polka, .int .i64 s.dec, .slice A l.length c]) (fun K hK => ?_) ⟨_, rfl, hC, Below.refl _ _, fun b hb _ => hb 105 rfl⟩
        clear hsame hdep
        unfold Oper.wp
        simp [execOp, Act.eval, hs, go_sem, zz]
        exact hK
      · have e1 : a'.tmps.getD 105 undef = .agg #[.int .i64 s.me, .int .i64 s.round, .int .i64 s.step, .int .i64 s.lv, .int .i64 s.lr, .int .i64 s.vv, .int .i64 s.vr, .int .i64 s.polka, .int .i64 s.dec, .slice A l.length c] := hdep ⟨0, .data⟩ (by simp) rfl
        have hr : RdL msgC 5 w' w'.heap.size A l.length c l := (((HL.out.below B15.out (Nat.le_refl _)).more B15.out.size).below hC (Nat.le_refl _)).more hz
        refine wp_call (fun u w2 => ∃ A2 c2, u = .agg #[.int .i64 s.me, .int .i64 s.round, .int .i64 s.step, .int .i64 s.lv, .int .i64 s.lr, .int .i64 s.vv, .int .i64 s.vr, .int .i64 s.polka, .int .i64 s.dec, .slice A2 l.length c2] ∧ OwnL msgC 5 40 w2 w'.heap.size w2.heap.size A2 l.length c2 l ∧ Below w'.heap.size w' w2) (fun K hK => ?_) ?_
        · clear hsame hdep
          unfold Oper.wp
          simp [Act.eval, e1, go_sem]
          refine (toNode_any s A l.length c l _ hr (by omega)).mono ?_
          rintro e w3 ⟨A7, c7, rfl, ho3, hb3⟩
          exact hK _ _ ⟨A7, c7, rfl, own_row ho3 hr.1, hb3⟩
        · rintro u w3 ⟨A7, c7, rfl, ho3, hb3⟩
          exact ⟨_, rfl, hC.trans (hb3.mono hz), hb3, fun b hb _ => ⟨A7, c7, hb 106 rfl, ho3.wide hz (Nat.le_refl _)⟩⟩
      · have hs : a'.tmps.getD 3 undef = .pointer (some ⟨w.heap.size + 1, 0, none⟩) := hsame 3 (by rfl)
        have zz : ∀ o, w'.cell? ⟨w.heap.size + 1, o, none⟩ = _ := fun o => (hC.cell (p := ⟨w.heap.size + 1, o, none⟩) (by show w.heap.size + 1 < w12p.heap.size; omega)).trans (ym15 o)
        refine wp_val (w2 := w') (.agg #[.int .i64 m.k, .int .i64 m.r, .int .i64 m.v, .int .i64 m.p, .int .i64 m.f]) (fun K hK => ?_) ⟨_, rfl, hC, Below.refl _ _, fun b hb _ => hb 107 rfl⟩
        clear hsame hdep
        unfold Oper.wp
        simp [execOp, Act.eval, hs, go_sem, zz]
        exact hK
      · have e1 : a'.tmps.getD 107 undef = .agg #[.int .i64 m.k, .int .i64 m.r, .int .i64 m.v, .int .i64 m.p, .int .i64 m.f] := hdep ⟨2, .data⟩ (by simp) rfl
        refine wp_call (fun u w2 => u = .agg #[.int .i64 m.k, .int .i64 m.r, .int .i64 m.v, .int .i64 m.p, .int .i64 m.f] ∧ Below w'.heap.size w' w2) (fun K hK => ?_) ?_
        · clear hsame hdep
          unfold Oper.wp
          simp [Act.eval, e1, go_sem]
          refine (toNMsg_any m.k m.r m.v m.p m.f _).mono ?_
          rintro e w3 ⟨rfl, hb3⟩
          exact hK _ _ ⟨rfl, hb3⟩
        · rintro u w3 ⟨rfl, hb3⟩
          exact ⟨_, rfl, hC.trans (hb3.mono hz), hb3, fun b hb _ => hb 108 rfl⟩
      · obtain ⟨A6, c6, e1, ho⟩ := hdep ⟨1, .data⟩ (by simp) rfl
        have hr : RdL msgC 5 w' w'.heap.size A6 l.length c6 l := ho.rd msgC_len
        have e2 : a'.tmps.getD 108 undef = .agg #[.int .i64 m.k, .int .i64 m.r, .int .i64 m.v, .int .i64 m.p, .int .i64 m.f] := hdep ⟨3, .data⟩ (by simp) rfl
        refine wp_call (fun u w2 => ∃ A c B d, u = .tuple #[.agg #[.int .i64 r.1.s.me, .int .i64 r.1.s.round, .int .i64 r.1.s.step, .int .i64 r.1.s.lv, .int .i64 r.1.s.lr, .int .i64 r.1.s.vv, .int .i64 r.1.s.vr, .int .i64 r.1.s.polka, .int .i64 r.1.s.dec, .slice A r.1.l.length c], .slice B r.1.o.length d, .bool r.2] ∧ Rows w2 (fun q => q < w12p.heap.size) A c B d r.1 ∧ Below w'.heap.size w' w2) (fun K hK => ?_) ?_
        · clear hsame hdep
          unfold Oper.wp
          simp [Act.eval, e1, e2, go_sem]
          refine (NodeGet_any s A6 c6 l m _ hr).mono ?_
          rintro e w3 ⟨A7, c7, B7, d7, he, hrr, hkk⟩
          rw [← HR.out] at he hrr
          subst he
          exact hK _ _ ⟨A7, c7, B7, d7, rfl, hrr.mono fun q hq => Nat.lt_of_lt_of_le hq hz, hkk.below fun q hq => hq⟩
        · rintro u w3 ⟨A7, c7, B7, d7, rfl, hrr, hb3⟩
          exact ⟨_, rfl, hC.trans (hb3.mono hz), hb3, fun b hb _ => ⟨A7, c7, B7, d7, hb 109 rfl, hrr⟩⟩
      · obtain ⟨A7, c7, B7, d7, e1, hrr⟩ := hdep ⟨4, .data⟩ (by simp) rfl
        refine wp_val (w2 := w') (.tuple #[.agg #[.int .i64 r.1.s.me, .int .i64 r.1.s.round, .int .i64 r.1.s.step, .int .i64 r.1.s.lv, .int .i64 r.1.s.lr, .int .i64 r.1.s.vv, .int .i64 r.1.s.vr, .int .i64 r.1.s.polka, .int .i64 r.1.s.dec, .slice A7 r.1.l.length c7], .slice B7 r.1.o.length d7, .bool r.2]) (fun K hK => ?_) ⟨_, rfl, hC, Below.refl _ _, fun b hb _ => ⟨A7, c7, B7, d7, hb 104 rfl, hrr⟩⟩
        clear hsame hdep
        unfold Oper.wp
        simp [execOp, Act.eval, e1, go_sem]
        exact hK
      · obtain ⟨A7, c7, B7, d7, e1, hrr⟩ := hdep ⟨5, .data⟩ (by simp) rfl
        refine wp_val (w2 := w') (.agg #[.int .i64 r.1.s.me, .int .i64 r.1.s.round, .int .i64 r.1.s.step, .int .i64 r.1.s.lv, .int .i64 r.1.s.lr, .int .i64 r.1.s.vv, .int .i64 r.1.s.vr, .int .i64 r.1.s.polka, .int .i64 r.1.s.dec, .slice A7 r.1.l.length c7]) (fun K hK => ?_) ⟨_, rfl, hC, Below.refl _ _, fun b hb hb2 => ⟨A7, c7, B7, d7, (hb2 104 (by intro d h; cases h; decide)).trans e1, hb 110 rfl, hrr⟩⟩
        clear hsame hdep
        unfold Oper.wp
        simp [execOp, Act.eval, e1, go_sem]
        exact hK
      · obtain ⟨A7, c7, B7, d7, e1, hrr⟩ := hdep ⟨5, .data⟩ (by simp) rfl
        refine wp_val (w2 := w') (.slice B7 r.1.o.length d7) (fun K hK => ?_) ⟨_, rfl, hC, Below.refl _ _, fun b hb hb2 => ⟨A7, c7, B7, d7, (hb2 104 (by intro d h; cases h; decide)).trans e1, hb 111 rfl, hrr⟩⟩
        clear hsame hdep
        unfold Oper.wp
        simp [execOp, Act.eval, e1, go_sem]
        exact hK
      · obtain ⟨A7, c7, B7, d7, e1, hrr⟩ := hdep ⟨5, .data⟩ (by simp) rfl
        refine wp_val (w2 := w') (.bool r.2) (fun K hK => ?_) ⟨_, rfl, hC, Below.refl _ _, fun b hb hb2 => hb 112 rfl⟩
        clear hsame hdep
        unfold Oper.wp
        simp [execOp, Act.eval, e1, go_sem]
        exact hK
      · refine wp_val (w2 := w'.alloc (.cells #[.int .i64 0, .int .i64 0, .int .i64 0, .int .i64 0, .int .i64 0, .int .i64 0, .int .i64 0, .int .i64 0, .int .i64 0, .slice none 0 0] 28)) (.pointer (some ⟨w'.heap.size, 0, none⟩)) (fun K hK => ?_) ⟨_, rfl, hC.alloc hz _, (Below.refl _ _).alloc (Nat.le_refl _) _, fun b hb _ => ⟨w'.heap.size, _, hb 16 rfl, hz, rfl, heap_alloc_new w' _⟩⟩
        clear hsame hdep
        unfold Oper.wp
        simp [execOp, go_sem]
        exact hK
      · obtain ⟨q0, cs0, e1, hq0, hsz, hblk⟩ := hdep ⟨9, .data⟩ (by simp) rfl
        obtain ⟨A7, c7, B7, d7, e3, e2, hrr⟩ := hdep ⟨6, .data⟩ (by simp) rfl
        clear e3 hrr
        obtain ⟨lc⟩ := cs0
        obtain ⟨k0, k1, k2, k3, k4, k5, k6, k7, k8, k9, rfl⟩ := list10 (l := lc) (by simpa using hsz)
        have f0 : w'.cell? ⟨q0, 0, none⟩ = some k0 := by rw [hblk.cell]; rfl
        have f1 : w'.cell? ⟨q0, 1, none⟩ = some k1 := by rw [hblk.cell]; rfl
        have f2 : w'.cell? ⟨q0, 2, none⟩ = some k2 := by rw [hblk.cell]; rfl
        have f3 : w'.cell? ⟨q0, 3, none⟩ = some k3 := by rw [hblk.cell]; rfl
        have f4 : w'.cell? ⟨q0, 4, none⟩ = some k4 := by rw [hblk.cell]; rfl
        have f5 : w'.cell? ⟨q0, 5, none⟩ = some k5 := by rw [hblk.cell]; rfl
        have f6 : w'.cell? ⟨q0, 6, none⟩ = some k6 := by rw [hblk.cell]; rfl
        have f7 : w'.cell? ⟨q0, 7, none⟩ = some k7 := by rw [hblk.cell]; rfl
        have f8 : w'.cell? ⟨q0, 8, none⟩ = some k8 := by rw [hblk.cell]; rfl
        have f9 : w'.cell? ⟨q0, 9, none⟩ = some k9 := by rw [hblk.cell]; rfl
        have ff := hblk.frozen
        obtain ⟨w9, hw9⟩ : ∃ z, z = ((((((((((w'.setCell ⟨q0, 0, none⟩ (.int .i64 r.1.s.me)).setCell ⟨q0, 1, none⟩ (.int .i64 r.1.s.round)).setCell ⟨q0, 2, none⟩ (.int .i64 r.1.s.step)).setCell ⟨q0, 3, none⟩ (.int .i64 r.1.s.lv)).setCell ⟨q0, 4, none⟩ (.int .i64 r.1.s.lr)).setCell ⟨q0, 5, none⟩ (.int .i64 r.1.s.vv)).setCell ⟨q0, 6, none⟩ (.int .i64 r.1.s.vr)).setCell ⟨q0, 7, none⟩ (.int .i64 r.1.s.polka)).setCell ⟨q0, 8, none⟩ (.int .i64 r.1.s.dec)).setCell ⟨q0, 9, none⟩ (.slice A7 r.1.l.length c7)) := ⟨_, rfl⟩
        have hchg : Chg q0 (q0 + 1) w' w9 := by rw [hw9]; (repeat (first | with_reducible refine Chg.setCell ?_ (by first | exact Nat.le_refl _ | (simp; done) | (simp; omega)) (by first | (simp; done) | (simp; omega)) _ | with_reducible refine Chg.alloc ?_ _ | with_reducible refine Chg.drew ?_)); (with_reducible exact Chg.refl _ _ _)
        have hblk2 : Blk w9 q0 28 #[.int .i64 r.1.s.me, .int .i64 r.1.s.round, .int .i64 r.1.s.step, .int .i64 r.1.s.lv, .int .i64 r.1.s.lr, .int .i64 r.1.s.vv, .int .i64 r.1.s.vr, .int .i64 r.1.s.polka, .int .i64 r.1.s.dec, .slice A7 r.1.l.length c7] := by
          rw [hw9]
          have hb := ((((((((((hblk.set_ 0 (.int .i64 r.1.s.me)).set_ 1 (.int .i64 r.1.s.round)).set_ 2 (.int .i64 r.1.s.step)).set_ 3 (.int .i64 r.1.s.lv)).set_ 4 (.int .i64 r.1.s.lr)).set_ 5 (.int .i64 r.1.s.vv)).set_ 6 (.int .i64 r.1.s.vr)).set_ 7 (.int .i64 r.1.s.polka)).set_ 8 (.int .i64 r.1.s.dec)).set_ 9 (.slice A7 r.1.l.length c7))
          simp only [List.setIfInBounds_toArray, List.set_cons_zero, List.set_cons_succ] at hb
          exact hb
        have hturn := BoxTurn.of_blk hblk hblk2 rfl hchg
        have hcls := hC.trans (hchg.below hq0 hz)
        refine wp_val (w2 := w9) undef (fun K hK => ?_) ⟨_, rfl, hcls, hturn, fun b _ hb => ⟨q0, A7, c7, (hb 16 (by intro d h; cases h)).trans e1, (hb 110 (by intro d h; cases h)).trans e2, hq0, hblk2⟩⟩
        rw [hw9] at hK
        clear hsame hdep hchg hblk2 hturn hcls hw9
        unfold Oper.wp
        simp [execOp, Act.eval, e1, e2, go_sem, f0, f1, f2, f3, f4, f5, f6, f7, f8, f9, ff]
        exact hK
      · obtain ⟨A7, c7, B7, d7, e1, e2, hrr⟩ := hdep ⟨7, .data⟩ (by simp) rfl
        clear e1 hrr
        refine wp_val (w2 := w') (.slice B7 r.1.o.length d7) (fun K hK => ?_) ⟨_, rfl, hC, Below.refl _ _, fun b hb hb2 => ⟨B7, d7, (hb2 111 (by intro d h; cases h; decide)).trans e2, hb 17 rfl⟩⟩
        clear hsame hdep
        unfold Oper.wp
        simp [execOp, Act.eval, e2, go_sem]
        exact hK
    · intro a' w' hC ha hP
      obtain ⟨q0, A7, c7, e1, f1, hq0, hblk⟩ := hP 10 (by simp)
      obtain ⟨A8, c8, B8, d8, t1, f2, hrr⟩ := hP 6 (by simp)
      obtain ⟨A9, c9, B9, d9, t2, e3, _⟩ := hP 7 (by simp)
      have e4 : a'.tmps.getD 112 undef = .bool r.2 := hP 8 (by simp)
      obtain ⟨B10, d10, e5, e6⟩ := hP 11 (by simp)
      clear hP
      have ex := f1.symm.trans f2
      simp only [Value.agg.injEq, Array.mk.injEq, List.cons.injEq, Value.slice.injEq, true_and, and_true] at ex
      obtain ⟨rfl, rfl⟩ := ex
      have ey := t1.symm.trans t2
      simp only [Value.tuple.injEq, Value.agg.injEq, Array.mk.injEq, List.cons.injEq, Value.slice.injEq, true_and, and_true] at ey
      obtain ⟨⟨rfl, rfl⟩, rfl, rfl⟩ := ey
      clear f1 f2 t1 t2
      have ez := e3.symm.trans e5
      simp only [Value.slice.injEq, true_and] at ez
      obtain ⟨rfl, rfl⟩ := ez
      clear e5
      simp only [coreOps, List.filterMap_cons, List.filterMap_nil, List.getElem?_cons_zero, List.getElem?_cons_succ, fillA, slotOf, Act.put, e1, e3, e4, e6] at ha
      generalize a'.tmps.getD 105 undef = u105 at ha
      generalize a'.tmps.getD 106 undef = u106 at ha
      generalize a'.tmps.getD 107 undef = u107 at ha
      generalize a'.tmps.getD 108 undef = u108 at ha
      generalize a'.tmps.getD 109 undef = u109 at ha
      generalize a'.tmps.getD 104 undef = u104 at ha
      generalize a'.tmps.getD 110 undef = u110 at ha
      subst ha
      show wpAny _ _ _ _ 1 _ _ _
      refine wpAny_ready (rs := [12]) (by kernel_rfl) (by simp) ?_
      refine AllReady.cons rfl (fun K hK => ?_) AllReady.nil
      go_simp
      refine hK _ _ ?_
      clear hK K
      refine wpAny_done (by kernel_rfl) ?_ _
      go_wp2_with fail
      go_meet
      obtain ⟨a1, b1, a2, b2, o1, o2, p1, p2, p3, p4, p5, p6, p7⟩ := hrr.split hC.size
      obtain ⟨x1, y1, o3, s1, s2, s3, s4⟩ := o1.apart hblk (by decide) p2
      obtain ⟨x2, y2, o4, s5, s6, s7, s8⟩ := o2.apart hblk (by decide) p5
      exact ⟨q0, A7, c7, B8, d8, x1, y1, x2, y2, rfl, rfl, rfl, hq0, hblk, o3, o4, by omega, hC⟩
  case rest =>
  obtain ⟨q14, A14, c14, D14, d14, a114, b114, a214, b214, rfl, rfl, rfl, hq14, hblk, p1, p2, hint14, hb⟩ := hcut
  obtain ⟨h141, h142, h143, h144, h145, h146, h147, h148, h149⟩ := hint14
  obtain ⟨w14, hw7⟩ : ∃ q, q = wc := ⟨_, rfl⟩
  subst hw7
  have C : Chg 0 0 w12p w14 := ⟨hb.os, hb.tape, hb.output, hb.size, fun k hk _ => hb.block k hk⟩
  clear hb
  have P1 := Lib.hid p1
  have P2 := Lib.hid p2
  clear p1 p2
  have yn : ∀ o, w14.cell? ⟨q14, o, none⟩ = (#[.int .i64 r.1.s.me, .int .i64 r.1.s.round, .int .i64 r.1.s.step, .int .i64 r.1.s.lv, .int .i64 r.1.s.lr, .int .i64 r.1.s.vv, .int .i64 r.1.s.vr, .int .i64 r.1.s.polka, .int .i64 r.1.s.dec, .slice A14 r.1.l.length c14] : Array Value)[o]? := fun o => hblk.cell o
  have hl14 := hblk.lt
  clear hblk
  have Yk := yn
  clear yn
  have hs16 := C.size
  have B16 : Hid (Below w.heap.size w w14) := Lib.hid (B15.out.trans (C.under (B := w.heap.size) (by omega) (by omega)))
  clear B15
  have ym16 : ∀ o, w14.cell? ⟨w.heap.size + 1, o, none⟩ = _ := fun o => (C.cell (k := w.heap.size + 1) (by omega) (by omega)).trans (ym15 o)
  clear ym15
  have ya16 : ∀ o, w14.cell? ⟨w.heap.size, o, none⟩ = _ := fun o => (C.cell (k := w.heap.size) (by omega) (by omega)).trans (ya15 o)
  clear ya15
  have yh16 : ∀ o, w14.cell? ⟨q3, o, none⟩ = _ := fun o => (C.cell (k := q3) (by omega) (by omega)).trans (yh15 o)
  clear yh15
  have yx16 : ∀ o, w14.cell? ⟨w4.heap.size, o, none⟩ = _ := fun o => (C.cell (k := w4.heap.size) (by omega) (by omega)).trans (yx15 o)
  clear yx15
  have yg16 : ∀ o, w14.cell? ⟨q5, o, none⟩ = _ := fun o => (C.cell (k := q5) (by omega) (by omega)).trans (yg15 o)
  clear yg15
  have O3l16 := Lib.hid (O3l15.out.chg C (by omega))
  clear O3l15
  have O3o16 := Lib.hid (O3o15.out.chg C (by omega))
  clear O3o15
  have O5l16 := Lib.hid (O5l15.out.chg C (by omega))
  clear O5l15
  have O5o16 := Lib.hid (O5o15.out.chg C (by omega))
  clear O5o15
  clear C
  have yk16 := Yk
  clear Yk
  have O14l16 := P1
  have O14o16 := P2
  clear P1 P2
  go_wp2_with fail
  refine (eqNode_same r.1.s A14 r.1.l.length c14 A3 c3 r.1.l _ ((O14l16.out.rd msgC_len).more (by omega)) ((O3l16.out.rd msgC_len).more (by omega))).mono ?_
  rintro e w15 ⟨rfl, hb⟩
  have C : Chg 0 0 w14 w15 := by exact Chg.of_below hb
  clear hb
  have hs17 := C.size
  have B17 : Hid (Below w.heap.size w w15) := Lib.hid (B16.out.trans (C.under (B := w.heap.size) (by omega) (by omega)))
  clear B16
  have ym17 : ∀ o, w15.cell? ⟨w.heap.size + 1, o, none⟩ = _ := fun o => (C.cell (k := w.heap.size + 1) (by omega) (by omega)).trans (ym16 o)
  clear ym16
  have ya17 : ∀ o, w15.cell? ⟨w.heap.size, o, none⟩ = _ := fun o => (C.cell (k := w.heap.size) (by omega) (by omega)).trans (ya16 o)
  clear ya16
  have yh17 : ∀ o, w15.cell? ⟨q3, o, none⟩ = _ := fun o => (C.cell (k := q3) (by omega) (by omega)).trans (yh16 o)
  clear yh16
  have yx17 : ∀ o, w15.cell? ⟨w4.heap.size, o, none⟩ = _ := fun o => (C.cell (k := w4.heap.size) (by omega) (by omega)).trans (yx16 o)
  clear yx16
  have yg17 : ∀ o, w15.cell? ⟨q5, o, none⟩ = _ := fun o => (C.cell (k := q5) (by omega) (by omega)).trans (yg16 o)
  clear yg16
  have yk17 : ∀ o, w15.cell? ⟨q14, o, none⟩ = _ := fun o => (C.cell (k := q14) (by omega) (by omega)).trans (yk16 o)
  clear yk16
  have O3l17 := Lib.hid (O3l16.out.chg C (by omega))
  clear O3l16
  have O3o17 := Lib.hid (O3o16.out.chg C (by omega))
  clear O3o16
  have O5l17 := Lib.hid (O5l16.out.chg C (by omega))
  clear O5l16
  have O5o17 := Lib.hid (O5o16.out.chg C (by omega))
  clear O5o16
  have O14l17 := Lib.hid (O14l16.out.chg C (by omega))
  clear O14l16
  have O14o17 := Lib.hid (O14o16.out.chg C (by omega))
  clear O14o16
  clear C
  go_wp2_with fail
  refine (eqNMsgS_same D14 r.1.o.length d14 D3 d3 r.1.o _ ((O14o17.out.rd msgC_len).more (by omega)) ((O3o17.out.rd msgC_len).more (by omega))).mono ?_
  rintro e w15p ⟨rfl, hb⟩
  have C : Chg 0 0 w15 w15p := by exact Chg.of_below hb
  clear hb
  have hs18 := C.size
  have B18 : Hid (Below w.heap.size w w15p) := Lib.hid (B17.out.trans (C.under (B := w.heap.size) (by omega) (by omega)))
  clear B17
  have ym18 : ∀ o, w15p.cell? ⟨w.heap.size + 1, o, none⟩ = _ := fun o => (C.cell (k := w.heap.size + 1) (by omega) (by omega)).trans (ym17 o)
  clear ym17
  have ya18 : ∀ o, w15p.cell? ⟨w.heap.size, o, none⟩ = _ := fun o => (C.cell (k := w.heap.size) (by omega) (by omega)).trans (ya17 o)
  clear ya17
  have yh18 : ∀ o, w15p.cell? ⟨q3, o, none⟩ = _ := fun o => (C.cell (k := q3) (by omega) (by omega)).trans (yh17 o)
  clear yh17
  have yx18 : ∀ o, w15p.cell? ⟨w4.heap.size, o, none⟩ = _ := fun o => (C.cell (k := w4.heap.size) (by omega) (by omega)).trans (yx17 o)
  clear yx17
  have yg18 : ∀ o, w15p.cell? ⟨q5, o, none⟩ = _ := fun o => (C.cell (k := q5) (by omega) (by omega)).trans (yg17 o)
  clear yg17
  have yk18 : ∀ o, w15p.cell? ⟨q14, o, none⟩ = _ := fun o => (C.cell (k := q14) (by omega) (by omega)).trans (yk17 o)
  clear yk17
  have O3l18 := Lib.hid (O3l17.out.chg C (by omega))
  clear O3l17
  have O3o18 := Lib.hid (O3o17.out.chg C (by omega))
  clear O3o17
  have O5l18 := Lib.hid (O5l17.out.chg C (by omega))
  clear O5l17
  have O5o18 := Lib.hid (O5o17.out.chg C (by omega))
  clear O5o17
  have O14l18 := Lib.hid (O14l17.out.chg C (by omega))
  clear O14l17
  have O14o18 := Lib.hid (O14o17.out.chg C (by omega))
  clear O14o17
  clear C
  go_wp2_with fail
  refine (heldNode_any r.1.s A5 r.1.l.length c5 1 _ ((O5l18.out.rd msgC_len).more (by omega)) (by decide) (by omega) (by decide)).mono ?_
  rintro e w16 ⟨rfl, hb⟩
  have C : Chg 0 0 w15p w16 := by exact Chg.of_below hb
  clear hb
  have hs19 := C.size
  have B19 : Hid (Below w.heap.size w w16) := Lib.hid (B18.out.trans (C.under (B := w.heap.size) (by omega) (by omega)))
  clear B18
  have ym19 : ∀ o, w16.cell? ⟨w.heap.size + 1, o, none⟩ = _ := fun o => (C.cell (k := w.heap.size + 1) (by omega) (by omega)).trans (ym18 o)
  clear ym18
  have ya19 : ∀ o, w16.cell? ⟨w.heap.size, o, none⟩ = _ := fun o => (C.cell (k := w.heap.size) (by omega) (by omega)).trans (ya18 o)
  clear ya18
  have yh19 : ∀ o, w16.cell? ⟨q3, o, none⟩ = _ := fun o => (C.cell (k := q3) (by omega) (by omega)).trans (yh18 o)
  clear yh18
  have yx19 : ∀ o, w16.cell? ⟨w4.heap.size, o, none⟩ = _ := fun o => (C.cell (k := w4.heap.size) (by omega) (by omega)).trans (yx18 o)
  clear yx18
  have yg19 : ∀ o, w16.cell? ⟨q5, o, none⟩ = _ := fun o => (C.cell (k := q5) (by omega) (by omega)).trans (yg18 o)
  clear yg18
  have yk19 : ∀ o, w16.cell? ⟨q14, o, none⟩ = _ := fun o => (C.cell (k := q14) (by omega) (by omega)).trans (yk18 o)
  clear yk18
  have O3l19 := Lib.hid (O3l18.out.chg C (by omega))
  clear O3l18
  have O3o19 := Lib.hid (O3o18.out.chg C (by omega))
  clear O3o18
  have O5l19 := Lib.hid (O5l18.out.chg C (by omega))
  clear O5l18
  have O5o19 := Lib.hid (O5o18.out.chg C (by omega))
  clear O5o18
  have O14l19 := Lib.hid (O14l18.out.chg C (by omega))
  clear O14l18
  have O14o19 := Lib.hid (O14o18.out.chg C (by omega))
  clear O14o18
  clear C
  have hp16 : ¬ ((1 + r.1.l.length * 5 : Nat) : Int) < 0 := by omega
  go_wp2_with fail
  refine (heldNMsgS_any D5 r.1.o.length d5 (1 + r.1.l.length * 5) _ ((O5o19.out.rd msgC_len).more (by omega)) (by omega) (by omega) (by omega)).mono ?_
  rintro e w16p ⟨rfl, hb⟩
  have C : Chg 0 0 w16 w16p := by exact Chg.of_below hb
  clear hb
  have hs20 := C.size
  have B20 : Hid (Below w.heap.size w w16p) := Lib.hid (B19.out.trans (C.under (B := w.heap.size) (by omega) (by omega)))
  clear B19
  have ym20 : ∀ o, w16p.cell? ⟨w.heap.size + 1, o, none⟩ = _ := fun o => (C.cell (k := w.heap.size + 1) (by omega) (by omega)).trans (ym19 o)
  clear ym19
  have ya20 : ∀ o, w16p.cell? ⟨w.heap.size, o, none⟩ = _ := fun o => (C.cell (k := w.heap.size) (by omega) (by omega)).trans (ya19 o)
  clear ya19
  have yh20 : ∀ o, w16p.cell? ⟨q3, o, none⟩ = _ := fun o => (C.cell (k := q3) (by omega) (by omega)).trans (yh19 o)
  clear yh19
  have yx20 : ∀ o, w16p.cell? ⟨w4.heap.size, o, none⟩ = _ := fun o => (C.cell (k := w4.heap.size) (by omega) (by omega)).trans (yx19 o)
  clear yx19
  have yg20 : ∀ o, w16p.cell? ⟨q5, o, none⟩ = _ := fun o => (C.cell (k := q5) (by omega) (by omega)).trans (yg19 o)
  clear yg19
  have yk20 : ∀ o, w16p.cell? ⟨q14, o, none⟩ = _ := fun o => (C.cell (k := q14) (by omega) (by omega)).trans (yk19 o)
  clear yk19
  have O3l20 := Lib.hid (O3l19.out.chg C (by omega))
  clear O3l19
  have O3o20 := Lib.hid (O3o19.out.chg C (by omega))
  clear O3o19
  have O5l20 := Lib.hid (O5l19.out.chg C (by omega))
  clear O5l19
  have O5o20 := Lib.hid (O5o19.out.chg C (by omega))
  clear O5o19
  have O14l20 := Lib.hid (O14l19.out.chg C (by omega))
  clear O14l19
  have O14o20 := Lib.hid (O14o19.out.chg C (by omega))
  clear O14o19
  clear C
  have hp16p : ¬ ((1 + r.1.l.length * 5 + r.1.o.length * 5 : Nat) : Int) < 0 := by omega
  go_wp2_with fail
  go_ret
  exact ⟨rfl, B20.out⟩

set_option maxRecDepth 100000 in
theorem ExactNodeGet_lifted (os : Os) (started : os.Started) (H : Type) (enc : TypeId × Value → H) :
    ReturnsInHanded {} Try.checked os 4 .any (Rows.fnExactNodeGetSpec.pre6 enc Try.prog Try.f4 Rows.fnExactNodeGetRow.domain false) (Rows.fnExactNodeGetSpec.post enc Try.prog Try.f4 false true false false) := by
  refine returnsInHanded_of_change (C := Try.checked) own started (by kernel_rfl) Try.func4
    (ChangeSpec.witness6 (enc := enc) (C := Try.checked) false ⟨#[], #[.agg #[.int .i64 0, .int .i64 0, .int .i64 0, .int .i64 0, .int .i64 0, .int .i64 0, .int .i64 0, .int .i64 0, .int .i64 0, .slice none 0 0], .agg #[.int .i64 0, .int .i64 0, .int .i64 0, .int .i64 0, .int .i64 0]], []⟩ 8 (by kernel_rfl) (by kernel_rfl) (by kernel_rfl) (by kernel_rfl)) ?_
  intro W base args ds gs before hval0 hW hcnd _
  have hval : ∀ (j : Nat) t v, Try.f4.params[j]? = some t → args[j]? = some v → Value.okWide Try.prog W .any base t v := hval0
  have hW' := hW
  obtain ⟨p, q, hA0, hV, rfl, hfz, hnd⟩ := hW
  have hA : DataW.TrodAll enc Try.prog W 0 (fun _ => true) true Try.f4.params.toList args.toList ds p := hA0
  rw [Try.params4] at hA hval
  obtain ⟨v0, vs0, d0, ds0, p0, q0, hargs, rfl, rfl, h0, r0⟩ := trodAll_cons hA
  obtain ⟨v1, vs1, d1, ds1, p1, q1, rfl, rfl, rfl, h1, r1⟩ := trodAll_cons r0
  obtain ⟨rfl, rfl, rfl⟩ := trodAll_nil r1
  obtain rfl : args = #[v0, v1] := by cases args; simp_all
  obtain ⟨cs, rfl, hlen, m, hf⟩ := agg_fields Try.underlying24 (hval 0 24 v0 rfl rfl) h0
  obtain ⟨y0, g0⟩ := hf 0 _ rfl
  obtain ⟨y1, g1⟩ := hf 1 _ rfl
  obtain ⟨y2, g2⟩ := hf 2 _ rfl
  obtain ⟨y3, g3⟩ := hf 3 _ rfl
  obtain ⟨y4, g4⟩ := hf 4 _ rfl
  obtain ⟨y5, g5⟩ := hf 5 _ rfl
  obtain ⟨y6, g6⟩ := hf 6 _ rfl
  obtain ⟨y7, g7⟩ := hf 7 _ rfl
  obtain ⟨y8, g8⟩ := hf 8 _ rfl
  obtain ⟨y9, g9⟩ := hf 9 _ rfl
  obtain ⟨c0, c1, c2, c3, c4, c5, c6, c7, c8, c9, rfl⟩ := list10 (hlen.trans (by kernel_rfl : Try.prog.cellsOf 24 = 10))
  obtain ⟨a0, rfl, _, _⟩ := field_int Try.underlying3 g0
  obtain ⟨a1, rfl, _, _⟩ := field_int Try.underlying3 g1
  obtain ⟨a2, rfl, _, _⟩ := field_int Try.underlying3 g2
  obtain ⟨a3, rfl, _, _⟩ := field_int Try.underlying3 g3
  obtain ⟨a4, rfl, _, _⟩ := field_int Try.underlying3 g4
  obtain ⟨a5, rfl, _, _⟩ := field_int Try.underlying3 g5
  obtain ⟨a6, rfl, _, _⟩ := field_int Try.underlying3 g6
  obtain ⟨a7, rfl, _, _⟩ := field_int Try.underlying3 g7
  obtain ⟨a8, rfl, _, _⟩ := field_int Try.underlying3 g8
  obtain ⟨A, n, c, rfl, l, hl⟩ := open_list Try.underlying22 (by kernel_rfl) (by decide) msgC_len (fun cs y n h => msg_el h) g9
  obtain ⟨e0, e1, e2, e3, e4, y0, y1, y2, y3, y4, m, rfl, rfl, rfl, hy0, hy1, hy2, hy3, hy4⟩ := open_agg5 Try.underlying38 (by kernel_rfl) (by kernel_rfl) (hval 1 38 v1 rfl rfl) h1
  obtain ⟨m0, rfl, _, _⟩ := field_int Try.underlying3 hy0
  obtain ⟨m1, rfl, _, _⟩ := field_int Try.underlying3 hy1
  obtain ⟨m2, rfl, _, _⟩ := field_int Try.underlying3 hy2
  obtain ⟨m3, rfl, _, _⟩ := field_int Try.underlying3 hy3
  obtain ⟨m4, rfl, _, _⟩ := field_int Try.underlying3 hy4
  refine (ExactNodeGet_walk ⟨a0, a1, a2, a3, a4, a5, a6, a7, a8⟩ A n c l ⟨m0, m1, m2, m3, m4⟩ W hl).mono fun e W' ⟨he, hb⟩ => ?_
  subst he
  refine ⟨_, rfl, law_post (f := Try.f4) (tb := 4) rfl Try.underlying4 rfl (by kernel_rfl) (fun gs hg => by subst hg; rfl) (fun gs hg => by subst hg; rfl) (fun gs hg => by subst hg; rfl) hW' hb⟩

theorem ExactNodeGet_holds : Rows.FnExactNodeGetSaid :=
  OpenClaim.holds_of_wide 4 Try.f4 rfl rfl rfl rfl rfl rfl rfl ⟨rfl, rfl, rfl, rfl, rfl⟩ rfl rfl rfl rfl rfl (by kernel_rfl) Try.func4 (by kernel_rfl)
    (of_decide_eq_true (by kernel_rfl)) (by unfold Func.isWrapper; first | (rw [if_pos (by decide +kernel)]; kernel_rfl) | (rw [if_neg (by decide +kernel)]; exact ⟨rfl, rfl⟩))
    (fun os started H enc _ => ExactNodeGet_lifted os started H enc)
#print axioms ExactNodeGet_holds
end Go.Proofs.Ytmpppmeloieamaa
