/- Draws of signers: l14Some, DrawSignAsk, DrawMaySign. (written by wip/drawsign.py) -/
import Derived.Test.YteifmlmmfghjjaaDrawVote
import Derived.Test.YteifmlmmfghjjaaSignAsk2
import Derived.Test.YteifmlmmfghjjaaSignSync2
import Derived.WalkKit
import Derived.WalkSpells
import Derived.WalkLawsBesides
import Derived.Lib.Hide
namespace Go.Proofs.Yteifmlmmfghjjaa
open Go.RowKit

def signA (s : SignS) (B : Option Addr) (m d : Nat) : Array Value := #[.int .i64 s.val, .int .i64 s.dh, .int .i64 s.dr, .int .i64 s.ds, .string s.di, .int .i64 s.mh, .int .i64 s.mr, .int .i64 s.ms, .string s.mi, .bool s.pend, .slice B m d]
def zeroSA : Array Value := #[.int .i64 0, .int .i64 0, .int .i64 0, .int .i64 0, .string ⟨#[]⟩, .int .i64 0, .int .i64 0, .int .i64 0, .string ⟨#[]⟩, .bool false, .slice none 0 0]
structure SignIn (w0 : World) (cb : Nat) (A : Option Addr) (n c R T : Nat) (wx : World) (s : SignS) (l : List VoteD) (B : Option Addr) (d : Nat) : Prop where
  box : Blk wx T 32 (signA s B l.length d)
  res : Blk wx R 32 zeroSA
  cur : Cur wx cb A n c
  chg : Chg cb (cb + 1) w0 wx
  own : OwnL voteC 5 44 wx (T + 1) wx.heap.size B l.length d l
  len : l.length ≤ 61
section
variable {w0 wx wy : World} {cb n c R T d d' : Nat} {A B B' : Option Addr} {s s' : SignS} {l l' : List VoteD}
theorem SignIn.call (h : SignIn w0 cb A n c R T wx s l B d) (hg : Chg cb (cb + 1) wx wy) (hu : Cur wy cb A n c) (hR : cb < R) (hT : cb < T) : SignIn w0 cb A n c R T wy s l B d :=
  ⟨(hg.block T h.box.lt (.inr (by omega))).trans h.box, (hg.block R h.res.lt (.inr (by omega))).trans h.res, hu, h.chg.trans hg, (h.own.chg hg (.inr (by omega))).wide (Nat.le_refl _) hg.size, h.len⟩
theorem SignIn.below (h : SignIn w0 cb A n c R T wx s l B d) (hb : Below wx.heap.size wx wy) : SignIn w0 cb A n c R T wy s l B d :=
  ⟨h.box.below hb h.box.lt, h.res.below hb h.res.lt, h.cur.below hb h.cur.lt (Nat.le_refl _), h.chg.below_trans hb, (h.own.below hb (Nat.le_refl _)).wide (Nat.le_refl _) hb.size, h.len⟩
theorem SignIn.alloc (h : SignIn w0 cb A n c R T wx s l B d) (ob : Obj) : SignIn w0 cb A n c R T (wx.alloc ob) s l B d := h.below ((Below.refl _ _).alloc (Nat.le_refl _) ob)
theorem SignIn.drew (h : SignIn w0 cb A n c R T wx s l B d) : SignIn w0 cb A n c R T wx.drew s l B d := h.below ⟨rfl, rfl, rfl, Nat.le_refl _, fun _ _ => rfl⟩
/-- a box behind it, of another type, turned -/
theorem SignIn.other {V tv : Nat} {cs : Array Value} (h : SignIn w0 cb A n c R T wx s l B d) (hV : T < V) (hcT : cb < T) (hRT : R < T) (h0 : w0.heap.size ≤ T) (hb : Blk wx V tv cs) (ht : tv ≠ 44 ∨ Value.ownBlock (.slice B l.length d) ≠ some V) (hch : Chg V (V + 1) wx wy) : SignIn w0 cb A n c R T wy s l B d := by
  refine ⟨(hch.block T h.box.lt (.inl hV)).trans h.box, (hch.block R h.res.lt (.inl (by omega))).trans h.res, h.cur.chg hch (by omega), h.chg.trans_topT (by omega) hch, ?_, h.len⟩
  refine OwnL.wide (h.own.keep fun g h1 h2 e => ?_) (Nat.le_refl _) hch.size
  refine hch.block g h2 ?_
  rcases ht with ht | ht
  · obtain ⟨_, ⟨_, hn, _⟩ | ⟨g', cur, e', _, _, hg, _⟩⟩ := h.own
    · rw [hn] at e; simp [Value.ownBlock] at e
    · rw [e'] at e
      simp only [Value.ownBlock, Option.some.injEq] at e
      subst e
      by_cases he : g' = V
      · subst he
        unfold Blk at hg hb
        rw [hg] at hb
        simp only [Option.some.injEq, Obj.cells.injEq] at hb
        exact absurd hb.2.1.symm ht
      · omega
  · by_cases he : g = V
    · subst he; exact absurd e ht
    · omega
theorem SignIn.put (h : SignIn w0 cb A n c R T wx s l B d) (hRT : T ≠ R) (hcT : cb < T) (h0 : w0.heap.size ≤ T) (hch : Chg T (T + 1) wx wy) (hb : Blk wy T 32 (signA s' B' l'.length d')) (ho : OwnL voteC 5 44 wx (T + 1) wx.heap.size B' l'.length d' l') (hl : l'.length ≤ 61) : SignIn w0 cb A n c R T wy s' l' B' d' :=
  ⟨hb, (hch.block R h.res.lt (by omega)).trans h.res, h.cur.chg hch hcT, h.chg.trans_topT h0 hch, (ho.chg hch (.inr (Nat.le_refl _))).wide (Nat.le_refl _) hch.size, hl⟩
theorem SignIn.set (h : SignIn w0 cb A n c R T wx s l B d) (hRT : T ≠ R) (hcT : cb < T) (h0 : w0.heap.size ≤ T) (j : Nat) (v : Value) (s' : SignS) (e : (signA s B l.length d).setIfInBounds j v = signA s' B l.length d) : SignIn w0 cb A n c R T (wx.setCell ⟨T, j, none⟩ v) s' l B d := by
  have hch : Chg T (T + 1) wx (wx.setCell ⟨T, j, none⟩ v) := (Chg.refl _ _ _).setCell (by simp) (by simp) _
  have hb := h.box.set_ j v
  rw [e] at hb
  exact h.put hRT hcT h0 hch hb h.own h.len
theorem SignIn.fill (h : SignIn w0 cb A n c R T wx s l B d) (hRT : T ≠ R) (hcT : cb < T) (h0 : w0.heap.size ≤ T) (s' : SignS) (ho : OwnL voteC 5 44 wx (T + 1) wx.heap.size B' l'.length d' l') (hl : l'.length ≤ 61) :
    SignIn w0 cb A n c R T (((((((((((wx.setCell ⟨T, 0, none⟩ (.int .i64 s'.val)).setCell ⟨T, 1, none⟩ (.int .i64 s'.dh)).setCell ⟨T, 2, none⟩ (.int .i64 s'.dr)).setCell ⟨T, 3, none⟩ (.int .i64 s'.ds)).setCell ⟨T, 4, none⟩ (.string s'.di)).setCell ⟨T, 5, none⟩ (.int .i64 s'.mh)).setCell ⟨T, 6, none⟩ (.int .i64 s'.mr)).setCell ⟨T, 7, none⟩ (.int .i64 s'.ms)).setCell ⟨T, 8, none⟩ (.string s'.mi)).setCell ⟨T, 9, none⟩ (.bool s'.pend)).setCell ⟨T, 10, none⟩ (.slice B' l'.length d')) s' l' B' d' := by
  refine h.put hRT hcT h0 (by (repeat (first | with_reducible refine Chg.setCell ?_ (by first | exact Nat.le_refl _ | (simp; done) | (simp; omega)) (by first | (simp; done) | (simp; omega)) _ | with_reducible refine Chg.alloc ?_ _ | with_reducible refine Chg.drew ?_)); (with_reducible exact Chg.refl _ _ _)) ?_ ho hl
  have hb := (((((((((((h.box.set_ 0 (.int .i64 s'.val)).set_ 1 (.int .i64 s'.dh)).set_ 2 (.int .i64 s'.dr)).set_ 3 (.int .i64 s'.ds)).set_ 4 (.string s'.di)).set_ 5 (.int .i64 s'.mh)).set_ 6 (.int .i64 s'.mr)).set_ 7 (.int .i64 s'.ms)).set_ 8 (.string s'.mi)).set_ 9 (.bool s'.pend)).set_ 10 (.slice B' l'.length d'))
  simp only [signA, List.setIfInBounds_toArray, List.set_cons_zero, List.set_cons_succ] at hb
  exact hb
/-- a vote more -/
theorem SignIn.app {w' : World} {m : VoteD} {v : Value} (h : SignIn w0 cb A n c R T wx s l B d) (hl : l.length + 1 ≤ 61) (hcT : cb < T) (hRT : R < T) (h0 : w0.heap.size ≤ T)
    (hown : w'.ownsRow (T + 1) 44 5 v (l.length + 1) (l.flatMap voteC ++ voteC m)) (hg : wx.grownBy w' (Value.ownBlock (.slice B l.length d))) :
    ∃ B' d', v = .slice B' (l.length + 1) d' ∧ (∀ i, w'.cell? ⟨T, i, none⟩ = (signA s B l.length d)[i]?) ∧ (∀ i, w'.frozen? ⟨T, i, none⟩ = false) ∧ T < w'.heap.size ∧ SignIn w0 cb A n c R T (w'.setCell ⟨T, 10, none⟩ v) s (l ++ [m]) B' d' := by
  have e : l.flatMap voteC ++ voteC m = (l ++ [m]).flatMap voteC := by rw [List.flatMap_append]; simp
  rw [e] at hown
  obtain ⟨B', d', rfl, ho⟩ := OwnL.of_own (f := voteC) (l := l ++ [m]) (by simp) hown
  have hch : Chg (T + 1) wx.heap.size wx w' := grown_chg hg fun g e => by have := h.own.block g e; omega
  have hb : Blk w' T 32 (signA s B l.length d) := (hch.block T h.box.lt (.inl (by omega))).trans h.box
  have hc2 : Chg T (T + 1) w' (w'.setCell ⟨T, 10, none⟩ (.slice B' (l.length + 1) d')) := (Chg.refl _ _ _).setCell (p := ⟨T, 10, none⟩) (Nat.le_refl _) (Nat.lt_succ_self _) _
  refine ⟨B', d', rfl, hb.cell, hb.frozen, hb.lt, ?_, ?_, (h.cur.chg hch (by omega)).chg hc2 hcT, (h.chg.trans_topT (by omega) hch).trans_topT h0 hc2, ?_, by simpa using hl⟩
  · have := hb.set_ 10 (.slice B' (l.length + 1) d')
    simpa [signA] using this
  · exact (hc2.block R (by have := hb.lt; omega) (.inl (by omega))).trans ((hch.block R h.res.lt (.inl (by omega))).trans h.res)
  · have := (ho.chg hc2 (.inr (Nat.le_refl _))).wide (Nat.le_refl _) hc2.size
    simpa using this
end
theorem signB_len60 {s : SignS} {l : List VoteD} (h : signB s l = true) : l.length ≤ 60 := signB_len h
theorem askL_len60 (s : SignS) (l : List VoteD) (v : VoteD) : (askL s l v).length ≤ 60 := by
  unfold askL
  split
  · rename_i h
    have := signB_len h
    split
    · rename_i h2
      have h3 := h2.1
      unfold askReady at h3
      simp only [Bool.and_eq_true, decide_eq_true_eq] at h3
      simp; omega
    · exact this
  · simp
theorem syncL_len60 (s : SignS) (l : List VoteD) : (syncL s l).length ≤ 60 := by
  unfold syncL
  split
  · rename_i h
    have := signB_len h
    split
    · rename_i h2
      simp; omega
    · exact this
  · simp
theorem fallL_len60 (s : SignS) (l : List VoteD) : (fallL s l).length ≤ 60 := by
  unfold fallL
  split
  · rename_i h
    exact signB_len h
  · simp
def SignDrew (cb : Nat) (A : Option Addr) (n c : Nat) (w : World) (e : Ending) (w' : World) : Prop :=
  ∃ (s : SignS) (l : List VoteD) (B : Option Addr) (d : Nat), e = .returned (.agg #[.int .i64 s.val, .int .i64 s.dh, .int .i64 s.dr, .int .i64 s.ds, .string s.di, .int .i64 s.mh, .int .i64 s.mr, .int .i64 s.ms, .string s.mi, .bool s.pend, .slice B l.length d]) ∧ OwnL voteC 5 44 w' w.heap.size w'.heap.size B l.length d l ∧ l.length ≤ 61 ∧ Chg cb (cb + 1) w w' ∧ Cur w' cb A n c
theorem Rd.oneV (w : World) (m : VoteD) (g : Nat) (hg : g = w.heap.size) : Rd (w.alloc (.cells #[.int .i64 m.h, .int .i64 m.r, .int .i64 m.st, .string m.id, .int .i64 m.v] 44)) (w.heap.size + 1) (some ⟨g, 0, none⟩) 1 1 5 (voteC m) := by
  subst hg
  refine ⟨rfl, Nat.le_refl _, by unfold maxLen; omega, fun _ => ⟨w.heap.size, 0, rfl, by omega, fun j hj => ?_⟩⟩
  have hb : Blk (w.alloc (.cells #[.int .i64 m.h, .int .i64 m.r, .int .i64 m.st, .string m.id, .int .i64 m.v] 44)) w.heap.size 44 #[.int .i64 m.h, .int .i64 m.r, .int .i64 m.st, .string m.id, .int .i64 m.v] := heap_alloc_new w _
  rw [hb.cell, Nat.zero_add]; simp [voteC]
theorem voteC_oneS (m : VoteD) : ∀ u ∈ voteC m, u.oneCell' = true := by
  intro u hu
  simp only [voteC, List.mem_cons, List.not_mem_nil, or_false] at hu
  rcases hu with rfl | rfl | rfl | rfl | rfl <;> rfl

set_option maxRecDepth 100000 in
set_option maxHeartbeats 4000000 in
theorem l14Some_any (cb : Nat) (A : Option Addr) (n c : Nat) (m : Int) (w : World) (hc : Cur w cb A n c) (hm : m ≤ 1048576) :
    Calls Try.prog 47 #[.pointer (some ⟨cb, 0, none⟩), .int .i64 m] w (SignDrew cb A n c w) := by
  have HC := Lib.hid hc
  have hlt := hc.lt
  clear hc
  go_enter Try.func47, Try.ntmps47
  go_wp2_with fail
  refine (l1Below_any cb A n c 3 _ (HC.out.alloc _) (by omega)).mono ?_
  rintro e w1 ⟨v, rfl, ⟨x1, rfl, hx0, hxx⟩, hg, hu⟩
  simp at hxx
  have HU1 := Lib.hid hu
  have HR1 : Hid (Blk w1 w.heap.size 32 zeroSA) := (hg.block _ (by simp) (.inr (by omega))).trans (heap_alloc_new w _)
  have hs1 : w.heap.size < w1.heap.size := HR1.out.lt
  have C1 := Lib.hid (((Chg.refl cb (cb + 1) w).alloc _).trans hg)
  clear hg hu
  go_upto_region 2 with fail
  obtain ⟨w3, hw3⟩ : ∃ q, q = w1.alloc (.cells (signA ⟨1 + x1, 0, 0, 0, ⟨#[]⟩, 0, 0, 0, ⟨#[]⟩, false⟩ none 0 0) 32) := ⟨_, rfl⟩
  unfold signA at hw3
  rw [← hw3]
  have N3 : Hid (SignIn w cb A n c w.heap.size w1.heap.size w3 ⟨1 + x1, 0, 0, 0, ⟨#[]⟩, 0, 0, 0, ⟨#[]⟩, false⟩ [] none 0) := by
    rw [hw3]
    exact ⟨heap_alloc_new w1 _, HR1.out.below ((Below.refl _ _).alloc (Nat.le_refl _) _) hs1, HU1.out.alloc _, C1.out.alloc _, ⟨rfl, .inl ⟨rfl, rfl, rfl⟩⟩, by simp⟩
  clear hw3 HR1 HU1 C1 HC
  have hcT : cb < w1.heap.size := by omega
  have hRT : w1.heap.size ≠ w.heap.size := by omega
  have h0T : w.heap.size ≤ w1.heap.size := by omega
  go_wp2_with fail
  refine (l1Below_any cb A n c m _ N3.out.cur (by omega)).mono ?_
  rintro e w4 ⟨v, rfl, ⟨j, rfl, hj0, hj1⟩, hg, hu⟩
  have N4 := Lib.hid (N3.out.call hg hu hlt hcT)
  clear hg hu N3
  obtain ⟨k0, rfl⟩ := Int.eq_ofNat_of_zero_le hj0
  have hk0 : k0 ≤ 1048576 := by split at hj1 <;> omega
  clear hj1 hj0
  go_wp2_with fail
  go_loopw [6] (fun i wr => ∃ (k : Nat) (s : SignS) (l : List VoteD) (B : Option Addr) (d : Nat), k ≤ 1048576 ∧ i = .int .i64 k ∧ SignIn w cb A n c w.heap.size w1.heap.size wr s l B d ∧ l.length ≤ 60) (fun i _ => (intOf i).toNat)
  case atStart => exact ⟨k0, _, [], none, 0, hk0, rfl, N4.out, by simp⟩
  case round =>
    obtain ⟨k, s, l, B, d, hkb, rfl, hN, hl⟩ := hrel
    have NK := Lib.hid hN
    clear hN N4
    by_cases hk : (0 : Int) < k
    · go_wp2_with fail
      refine (l1Below_any cb A n c 6 _ NK.out.cur (by omega)).mono ?_
      rintro e w5 ⟨v, rfl, ⟨x, rfl, hx2, hx3⟩, hg, hu⟩
      simp at hx3
      have N5 := Lib.hid (NK.out.call hg hu hlt hcT)
      clear hg hu NK
      have h5 := N5.out.box.lt
      have tg := N5.out.box.cell
      have tf := N5.out.box.frozen
      unfold signA at tg
      rcases (by omega : x = 0 ∨ x = 1 ∨ x = 2 ∨ x = 3 ∨ x = 4 ∨ x = 5) with rfl | rfl | rfl | rfl | rfl | rfl
      · go_wp2_with fail
        refine (l8Vote_any cb A n c _ N5.out.cur).mono ?_
        rintro e w6 ⟨v, rfl, ⟨vh, vr, vs, vv, vi, rfl, hvi⟩, hg, hu⟩
        have N6 := Lib.hid (N5.out.call hg hu hlt hcT)
        clear hg hu N5 tg tf
        go_upto_region 12 with fail
        obtain ⟨w7, hw7⟩ : ∃ q, q = w6.alloc (.cells #[.int .i64 vh, .int .i64 vr, .int .i64 vs, .string vi, .int .i64 vv] 44) := ⟨_, rfl⟩
        rw [← hw7]
        have hV7 : Hid (Blk w7 w6.heap.size 44 #[.int .i64 vh, .int .i64 vr, .int .i64 vs, .string vi, .int .i64 vv]) := Lib.hid (by rw [hw7]; exact heap_alloc_new w6 _)
        have hb : Below w6.heap.size w6 w7 := by rw [hw7]; exact (Below.refl _ _).alloc (Nat.le_refl _) _
        have O7 := Lib.hid ((N6.out.own.below hb (Nat.le_refl _)))
        have N7 := Lib.hid (N6.out.below hb)
        have hT6 := N6.out.box.lt
        clear hw7 hb N6
        go_wp2_with fail
        refine (l1Once_any cb A n c 8 _ N7.out.cur (by omega)).mono ?_
        rintro e w8 ⟨v, rfl, ⟨b, rfl⟩, hg, hu⟩
        have N8 := Lib.hid (N7.out.call hg hu hlt hcT)
        have hV8 : Hid (Blk w8 w6.heap.size 44 _) := Lib.hid ((hg.block _ hV7.out.lt (.inr (by omega))).trans hV7.out)
        have O8 := Lib.hid (O7.out.chg hg (.inr (by omega)))
        clear hg hu N7 hV7 O7
        go_upto_if 41 with fail
        go_cut [] (fun wx => ∃ xv : Int, Blk wx w6.heap.size 44 #[.int .i64 vh, .int .i64 vr, .int .i64 vs, .string vi, .int .i64 xv] ∧ SignIn w cb A n c w.heap.size w1.heap.size wx s l B d)
        case first =>
          cases b
          · have tg := N8.out.box.cell
            unfold signA at tg
            have h8 := N8.out.box.lt
            have vg := hV8.out.cell
            have vf := hV8.out.frozen
            have v8 := hV8.out.lt
            go_wp2_with fail
            go_meet
            have hch : Chg w6.heap.size (w6.heap.size + 1) w8 (w8.setCell ⟨w6.heap.size, 4, none⟩ (.int .i64 s.val)) := (Chg.refl _ _ _).setCell (by simp) (by simp) _
            refine ⟨s.val, ?_, N8.out.other hT6 hcT (by omega) h0T hV8.out (.inr fun e => ?_) hch⟩
            · have := hV8.out.set_ 4 (.int .i64 s.val)
              simpa using this
            · have := O8.out.block _ e
              omega
          · go_wp2_with fail
            go_meet
            exact ⟨vv, hV8.out, N8.out⟩
        case rest =>
        obtain ⟨xv, hVx, hN⟩ := hcut
        obtain ⟨w8, hwc⟩ : ∃ q, q = wc := ⟨_, rfl⟩
        subst hwc
        have NC := Lib.hid hN
        have tg := hN.box.cell
        unfold signA at tg
        have h8 := hN.box.lt
        have vg := hVx.cell
        have v8 := hVx.lt
        clear hN hVx O8 hV8 N8
        go_wp2_with fail
        refine (sSignAsk_any s B d l ⟨vh, vr, vs, vi, xv⟩ _ ((NC.out.own.rd voteC_len).more (Nat.le_refl _))).mono ?_
        rintro e w9 ⟨A7, c7, rfl, ho, hb⟩
        have N9 := Lib.hid (NC.out.below hb)
        have hO := Lib.hid (ho.wide (lo' := w1.heap.size + 1) (hi' := w9.heap.size) (by have := N9.out.box.lt; have := NC.out.box.lt; omega) (Nat.le_refl _))
        have hln := askL_len60 s l ⟨vh, vr, vs, vi, xv⟩
        obtain ⟨y, hy⟩ : ∃ y, y = askS s l ⟨vh, vr, vs, vi, xv⟩ := ⟨_, rfl⟩
        obtain ⟨yl, hyl⟩ : ∃ y, y = askL s l ⟨vh, vr, vs, vi, xv⟩ := ⟨_, rfl⟩
        rw [← hyl] at hln ho
        have hO2 : Hid (OwnL voteC 5 44 w9 (w1.heap.size + 1) w9.heap.size A7 yl.length c7 yl) := Lib.hid (by rw [hyl]; exact hO.out)
        rw [← hy, ← hyl]
        generalize askK s l ⟨vh, vr, vs, vi, xv⟩ = kk
        clear tg vg
        clear hy hyl hb ho hO NC
        have h9 := N9.out.box.lt
        have tg := N9.out.box.cell
        have tf := N9.out.box.frozen
        unfold signA at tg
        go_wp2_with fail
        go_roundw
        case rel => exact ⟨k - 1, y, yl, A7, c7, by omega, by go_num, (N9.out.fill hRT hcT h0T y hO2.out (by omega)).alloc _, hln⟩
        case measure => simp [intOf]; omega
      · go_wp2_with fail
        refine (l8Vote_any cb A n c _ N5.out.cur).mono ?_
        rintro e w6 ⟨v, rfl, ⟨vh, vr, vs, vv, vi, rfl, hvi⟩, hg, hu⟩
        have N6 := Lib.hid (N5.out.call hg hu hlt hcT)
        clear hg hu N5 tg tf
        go_upto_region 12 with fail
        obtain ⟨w7, hw7⟩ : ∃ q, q = w6.alloc (.cells #[.int .i64 vh, .int .i64 vr, .int .i64 vs, .string vi, .int .i64 vv] 44) := ⟨_, rfl⟩
        rw [← hw7]
        have hV7 : Hid (Blk w7 w6.heap.size 44 #[.int .i64 vh, .int .i64 vr, .int .i64 vs, .string vi, .int .i64 vv]) := Lib.hid (by rw [hw7]; exact heap_alloc_new w6 _)
        have hb : Below w6.heap.size w6 w7 := by rw [hw7]; exact (Below.refl _ _).alloc (Nat.le_refl _) _
        have O7 := Lib.hid ((N6.out.own.below hb (Nat.le_refl _)))
        have N7 := Lib.hid (N6.out.below hb)
        have hT6 := N6.out.box.lt
        clear hw7 hb N6
        go_wp2_with fail
        refine (l1Once_any cb A n c 8 _ N7.out.cur (by omega)).mono ?_
        rintro e w8 ⟨v, rfl, ⟨b, rfl⟩, hg, hu⟩
        have N8 := Lib.hid (N7.out.call hg hu hlt hcT)
        have hV8 : Hid (Blk w8 w6.heap.size 44 _) := Lib.hid ((hg.block _ hV7.out.lt (.inr (by omega))).trans hV7.out)
        have O8 := Lib.hid (O7.out.chg hg (.inr (by omega)))
        clear hg hu N7 hV7 O7
        go_upto_if 41 with fail
        go_cut [] (fun wx => ∃ xv : Int, Blk wx w6.heap.size 44 #[.int .i64 vh, .int .i64 vr, .int .i64 vs, .string vi, .int .i64 xv] ∧ SignIn w cb A n c w.heap.size w1.heap.size wx s l B d)
        case first =>
          cases b
          · have tg := N8.out.box.cell
            unfold signA at tg
            have h8 := N8.out.box.lt
            have vg := hV8.out.cell
            have vf := hV8.out.frozen
            have v8 := hV8.out.lt
            go_wp2_with fail
            go_meet
            have hch : Chg w6.heap.size (w6.heap.size + 1) w8 (w8.setCell ⟨w6.heap.size, 4, none⟩ (.int .i64 s.val)) := (Chg.refl _ _ _).setCell (by simp) (by simp) _
            refine ⟨s.val, ?_, N8.out.other hT6 hcT (by omega) h0T hV8.out (.inr fun e => ?_) hch⟩
            · have := hV8.out.set_ 4 (.int .i64 s.val)
              simpa using this
            · have := O8.out.block _ e
              omega
          · go_wp2_with fail
            go_meet
            exact ⟨vv, hV8.out, N8.out⟩
        case rest =>
        obtain ⟨xv, hVx, hN⟩ := hcut
        obtain ⟨w8, hwc⟩ : ∃ q, q = wc := ⟨_, rfl⟩
        subst hwc
        have NC := Lib.hid hN
        have tg := hN.box.cell
        unfold signA at tg
        have h8 := hN.box.lt
        have vg := hVx.cell
        have v8 := hVx.lt
        clear hN hVx O8 hV8 N8
        go_wp2_with fail
        refine (sSignAsk_any s B d l ⟨vh, vr, vs, vi, xv⟩ _ ((NC.out.own.rd voteC_len).more (Nat.le_refl _))).mono ?_
        rintro e w9 ⟨A7, c7, rfl, ho, hb⟩
        have N9 := Lib.hid (NC.out.below hb)
        have hO := Lib.hid (ho.wide (lo' := w1.heap.size + 1) (hi' := w9.heap.size) (by have := N9.out.box.lt; have := NC.out.box.lt; omega) (Nat.le_refl _))
        have hln := askL_len60 s l ⟨vh, vr, vs, vi, xv⟩
        obtain ⟨y, hy⟩ : ∃ y, y = askS s l ⟨vh, vr, vs, vi, xv⟩ := ⟨_, rfl⟩
        obtain ⟨yl, hyl⟩ : ∃ y, y = askL s l ⟨vh, vr, vs, vi, xv⟩ := ⟨_, rfl⟩
        rw [← hyl] at hln ho
        have hO2 : Hid (OwnL voteC 5 44 w9 (w1.heap.size + 1) w9.heap.size A7 yl.length c7 yl) := Lib.hid (by rw [hyl]; exact hO.out)
        rw [← hy, ← hyl]
        generalize askK s l ⟨vh, vr, vs, vi, xv⟩ = kk
        clear tg vg
        clear hy hyl hb ho hO NC
        have h9 := N9.out.box.lt
        have tg := N9.out.box.cell
        have tf := N9.out.box.frozen
        unfold signA at tg
        go_wp2_with fail
        go_roundw
        case rel => exact ⟨k - 1, y, yl, A7, c7, by omega, by go_num, (N9.out.fill hRT hcT h0T y hO2.out (by omega)).alloc _, hln⟩
        case measure => simp [intOf]; omega
      · go_wp2_with fail
        refine (l8Vote_any cb A n c _ N5.out.cur).mono ?_
        rintro e w6 ⟨v, rfl, ⟨vh, vr, vs, vv, vi, rfl, hvi⟩, hg, hu⟩
        have N6 := Lib.hid (N5.out.call hg hu hlt hcT)
        clear hg hu N5 tg tf
        go_upto_region 12 with fail
        obtain ⟨w7, hw7⟩ : ∃ q, q = w6.alloc (.cells #[.int .i64 vh, .int .i64 vr, .int .i64 vs, .string vi, .int .i64 vv] 44) := ⟨_, rfl⟩
        rw [← hw7]
        have hV7 : Hid (Blk w7 w6.heap.size 44 #[.int .i64 vh, .int .i64 vr, .int .i64 vs, .string vi, .int .i64 vv]) := Lib.hid (by rw [hw7]; exact heap_alloc_new w6 _)
        have hb : Below w6.heap.size w6 w7 := by rw [hw7]; exact (Below.refl _ _).alloc (Nat.le_refl _) _
        have O7 := Lib.hid ((N6.out.own.below hb (Nat.le_refl _)))
        have N7 := Lib.hid (N6.out.below hb)
        have hT6 := N6.out.box.lt
        clear hw7 hb N6
        go_wp2_with fail
        refine (l1Once_any cb A n c 8 _ N7.out.cur (by omega)).mono ?_
        rintro e w8 ⟨v, rfl, ⟨b, rfl⟩, hg, hu⟩
        have N8 := Lib.hid (N7.out.call hg hu hlt hcT)
        have hV8 : Hid (Blk w8 w6.heap.size 44 _) := Lib.hid ((hg.block _ hV7.out.lt (.inr (by omega))).trans hV7.out)
        have O8 := Lib.hid (O7.out.chg hg (.inr (by omega)))
        clear hg hu N7 hV7 O7
        go_upto_if 41 with fail
        go_cut [] (fun wx => ∃ xv : Int, Blk wx w6.heap.size 44 #[.int .i64 vh, .int .i64 vr, .int .i64 vs, .string vi, .int .i64 xv] ∧ SignIn w cb A n c w.heap.size w1.heap.size wx s l B d)
        case first =>
          cases b
          · have tg := N8.out.box.cell
            unfold signA at tg
            have h8 := N8.out.box.lt
            have vg := hV8.out.cell
            have vf := hV8.out.frozen
            have v8 := hV8.out.lt
            go_wp2_with fail
            go_meet
            have hch : Chg w6.heap.size (w6.heap.size + 1) w8 (w8.setCell ⟨w6.heap.size, 4, none⟩ (.int .i64 s.val)) := (Chg.refl _ _ _).setCell (by simp) (by simp) _
            refine ⟨s.val, ?_, N8.out.other hT6 hcT (by omega) h0T hV8.out (.inr fun e => ?_) hch⟩
            · have := hV8.out.set_ 4 (.int .i64 s.val)
              simpa using this
            · have := O8.out.block _ e
              omega
          · go_wp2_with fail
            go_meet
            exact ⟨vv, hV8.out, N8.out⟩
        case rest =>
        obtain ⟨xv, hVx, hN⟩ := hcut
        obtain ⟨w8, hwc⟩ : ∃ q, q = wc := ⟨_, rfl⟩
        subst hwc
        have NC := Lib.hid hN
        have tg := hN.box.cell
        unfold signA at tg
        have h8 := hN.box.lt
        have vg := hVx.cell
        have v8 := hVx.lt
        clear hN hVx O8 hV8 N8
        go_wp2_with fail
        refine (sSignAsk_any s B d l ⟨vh, vr, vs, vi, xv⟩ _ ((NC.out.own.rd voteC_len).more (Nat.le_refl _))).mono ?_
        rintro e w9 ⟨A7, c7, rfl, ho, hb⟩
        have N9 := Lib.hid (NC.out.below hb)
        have hO := Lib.hid (ho.wide (lo' := w1.heap.size + 1) (hi' := w9.heap.size) (by have := N9.out.box.lt; have := NC.out.box.lt; omega) (Nat.le_refl _))
        have hln := askL_len60 s l ⟨vh, vr, vs, vi, xv⟩
        obtain ⟨y, hy⟩ : ∃ y, y = askS s l ⟨vh, vr, vs, vi, xv⟩ := ⟨_, rfl⟩
        obtain ⟨yl, hyl⟩ : ∃ y, y = askL s l ⟨vh, vr, vs, vi, xv⟩ := ⟨_, rfl⟩
        rw [← hyl] at hln ho
        have hO2 : Hid (OwnL voteC 5 44 w9 (w1.heap.size + 1) w9.heap.size A7 yl.length c7 yl) := Lib.hid (by rw [hyl]; exact hO.out)
        rw [← hy, ← hyl]
        generalize askK s l ⟨vh, vr, vs, vi, xv⟩ = kk
        clear tg vg
        clear hy hyl hb ho hO NC
        have h9 := N9.out.box.lt
        have tg := N9.out.box.cell
        have tf := N9.out.box.frozen
        unfold signA at tg
        go_wp2_with fail
        go_roundw
        case rel => exact ⟨k - 1, y, yl, A7, c7, by omega, by go_num, (N9.out.fill hRT hcT h0T y hO2.out (by omega)).alloc _, hln⟩
        case measure => simp [intOf]; omega
      · go_wp2_with fail
        refine (sSignSync_any s B d l _ ((N5.out.own.rd voteC_len).more (Nat.le_refl _))).mono ?_
        rintro e w9 ⟨A7, c7, rfl, ho, hb⟩
        have N9 := Lib.hid (N5.out.below hb)
        have hO := Lib.hid (ho.wide (lo' := w1.heap.size + 1) (hi' := w9.heap.size) (by have := N9.out.box.lt; have := N5.out.box.lt; omega) (Nat.le_refl _))
        have hln := syncL_len60 s l
        obtain ⟨y, hy⟩ : ∃ y, y = syncS s l := ⟨_, rfl⟩
        obtain ⟨yl, hyl⟩ : ∃ y, y = syncL s l := ⟨_, rfl⟩
        rw [← hyl] at hln ho
        have hO2 : Hid (OwnL voteC 5 44 w9 (w1.heap.size + 1) w9.heap.size A7 yl.length c7 yl) := Lib.hid (by rw [hyl]; exact hO.out)
        rw [← hy, ← hyl]
        generalize syncK s l = kk
        clear tg tf
        clear hy hyl hb ho hO N5
        have h9 := N9.out.box.lt
        have tg := N9.out.box.cell
        have tf := N9.out.box.frozen
        unfold signA at tg
        go_wp2_with fail
        go_roundw
        case rel => exact ⟨k - 1, y, yl, A7, c7, by omega, by go_num, (N9.out.fill hRT hcT h0T y hO2.out (by omega)).alloc _, hln⟩
        case measure => simp [intOf]; omega
      · go_wp2_with fail
        refine (sSignSync_any s B d l _ ((N5.out.own.rd voteC_len).more (Nat.le_refl _))).mono ?_
        rintro e w9 ⟨A7, c7, rfl, ho, hb⟩
        have N9 := Lib.hid (N5.out.below hb)
        have hO := Lib.hid (ho.wide (lo' := w1.heap.size + 1) (hi' := w9.heap.size) (by have := N9.out.box.lt; have := N5.out.box.lt; omega) (Nat.le_refl _))
        have hln := syncL_len60 s l
        obtain ⟨y, hy⟩ : ∃ y, y = syncS s l := ⟨_, rfl⟩
        obtain ⟨yl, hyl⟩ : ∃ y, y = syncL s l := ⟨_, rfl⟩
        rw [← hyl] at hln ho
        have hO2 : Hid (OwnL voteC 5 44 w9 (w1.heap.size + 1) w9.heap.size A7 yl.length c7 yl) := Lib.hid (by rw [hyl]; exact hO.out)
        rw [← hy, ← hyl]
        generalize syncK s l = kk
        clear tg tf
        clear hy hyl hb ho hO N5
        have h9 := N9.out.box.lt
        have tg := N9.out.box.cell
        have tf := N9.out.box.frozen
        unfold signA at tg
        go_wp2_with fail
        go_roundw
        case rel => exact ⟨k - 1, y, yl, A7, c7, by omega, by go_num, (N9.out.fill hRT hcT h0T y hO2.out (by omega)).alloc _, hln⟩
        case measure => simp [intOf]; omega
      · go_wp2_with fail
        refine (sSignFall_any s B d l _ ((N5.out.own.rd voteC_len).more (Nat.le_refl _))).mono ?_
        rintro e w9 ⟨A7, c7, rfl, ho, hb⟩
        have N9 := Lib.hid (N5.out.below hb)
        have hO := Lib.hid (ho.wide (lo' := w1.heap.size + 1) (hi' := w9.heap.size) (by have := N9.out.box.lt; have := N5.out.box.lt; omega) (Nat.le_refl _))
        have hln := fallL_len60 s l
        obtain ⟨y, hy⟩ : ∃ y, y = fallS s l := ⟨_, rfl⟩
        obtain ⟨yl, hyl⟩ : ∃ y, y = fallL s l := ⟨_, rfl⟩
        rw [← hyl] at hln ho
        have hO2 : Hid (OwnL voteC 5 44 w9 (w1.heap.size + 1) w9.heap.size A7 yl.length c7 yl) := Lib.hid (by rw [hyl]; exact hO.out)
        rw [← hy, ← hyl]
        generalize fallB s l = kk
        clear tg tf
        clear hy hyl hb ho hO N5
        have h9 := N9.out.box.lt
        have tg := N9.out.box.cell
        have tf := N9.out.box.frozen
        unfold signA at tg
        go_wp2_with fail
        go_roundw
        case rel => exact ⟨k - 1, y, yl, A7, c7, by omega, by go_num, (N9.out.fill hRT hcT h0T y hO2.out (by omega)).alloc _, hln⟩
        case measure => simp [intOf]; omega
    · go_wp2_with fail
      refine (l1Once_any cb A n c 10 _ NK.out.cur (by omega)).mono ?_
      rintro e w9 ⟨v, rfl, ⟨b, rfl⟩, hg, hu⟩
      have N9 := Lib.hid (NK.out.call hg hu hlt hcT)
      clear hg hu NK
      go_upto_if 62 with fail
      go_cut [] (fun wx => ∃ s l B d, SignIn w cb A n c w.heap.size w1.heap.size wx s l B d)
      case first =>
        cases b
        · go_wp2_with fail
          go_meet
          exact ⟨s, l, B, d, N9.out⟩
        go_wp2_with fail
        refine (l1Below_any cb A n c 4 _ N9.out.cur (by omega)).mono ?_
        rintro e w10 ⟨v, rfl, ⟨x, rfl, y0, y1⟩, hg, hu⟩
        simp at y1
        have N10 := Lib.hid (N9.out.call hg hu hlt hcT)
        clear hg hu N9
        rcases (by omega : x = 0 ∨ x = 1 ∨ x = 2 ∨ x = 3) with rfl | rfl | rfl | rfl
        · go_wp2_with fail
          refine (l1PickInt_any cb A n c w10.heap.size 3 (-100) 100 _ (N10.out.cur.alloc _) (by decide) (by decide) N10.out.cur.lt (by simp) ?_).mono ?_
          · intro j hj
            rcases (by omega : j = 0 ∨ j = 1 ∨ j = 2) with rfl | rfl | rfl
            · exact ⟨0, by simp, by decide, by decide⟩
            · exact ⟨99, by simp, by decide, by decide⟩
            · exact ⟨100, by simp, by decide, by decide⟩
          rintro e w11 ⟨v, rfl, ⟨z, rfl, _, _⟩, hg, hu⟩
          have N11 := Lib.hid ((N10.out.alloc _).call hg hu hlt hcT)
          clear hg hu N10
          have tg := N11.out.box.cell
          have tf := N11.out.box.frozen
          have ht7 := N11.out.box.lt
          unfold signA at tg
          go_wp2_with fail
          go_meet
          exact ⟨_, l, B, d, N11.out.set hRT hcT h0T 0 _ ⟨z, s.dh, s.dr, s.ds, s.di, s.mh, s.mr, s.ms, s.mi, s.pend⟩ (by simp [signA])⟩
        · have tg := N10.out.box.cell
          have tf := N10.out.box.frozen
          have ht7 := N10.out.box.lt
          unfold signA at tg
          go_wp2_with fail
          go_meet
          exact ⟨_, l, B, d, N10.out.set hRT hcT h0T 9 _ ⟨s.val, s.dh, s.dr, s.ds, s.di, s.mh, s.mr, s.ms, s.mi, !s.pend⟩ (by simp [signA])⟩
        · go_wp2_with fail
          refine (l1Below_any cb A n c 4 _ N10.out.cur (by omega)).mono ?_
          rintro e w11 ⟨v, rfl, ⟨z, rfl, z0, z1⟩, hg, hu⟩
          have N11 := Lib.hid (N10.out.call hg hu hlt hcT)
          clear hg hu N10
          have tg := N11.out.box.cell
          have tf := N11.out.box.frozen
          have ht7 := N11.out.box.lt
          unfold signA at tg
          go_wp2_with fail
          go_meet
          exact ⟨_, l, B, d, N11.out.set hRT hcT h0T 7 _ ⟨s.val, s.dh, s.dr, s.ds, s.di, s.mh, s.mr, z, s.mi, s.pend⟩ (by simp [signA])⟩
        · obtain ⟨i0, hi, hz0, hz1, hz2⟩ := info_parts infoVote
          have tg := N10.out.box.cell
          have tf := N10.out.box.frozen
          have ht7 := N10.out.box.lt
          unfold signA at tg
          go_upto_region 22 with fail
          go_region_law (first
            | ((refine step_app_rd _ rfl _ _ _ rfl (w1.heap.size + 1) 44 i0 _ 5 48 Try.underlying30 hi hz0 hz1 hz2 rfl (by decide) (.slice B l.length d) l.length (l.flatMap voteC) rfl (by exact (N11.out.alloc _).own.owns voteC_len) _ _ 1 1 _ rfl (by exact Rd.oneV w11 ⟨x1, x2, x3, x5, x4⟩ _ (by first | rfl | simp)) (voteC_oneS _) (by unfold maxLen; omega) (by omega) (by first | (simp; done) | (simp; omega)) ?_)
               intro v2 w12 hown hg hat
               obtain ⟨B2, d2, rfl, tg12, tf12, ht12, hN12⟩ := (N11.out.alloc _).app (m := ⟨x1, x2, x3, x5, x4⟩) (by omega) hcT (by omega) h0T hown hg
               have N12 := Lib.hid hN12
               clear hown hg hat hN12
               unfold signA at tg12)
            | (go_simp; refine (l8Vote_any cb A n c _ (by exact N10.out.cur.drew)).mono ?_; rintro e w11 ⟨v, rfl, ⟨x1, x2, x3, x4, x5, rfl, hx5⟩, hg, hu⟩; have N11 := Lib.hid (N10.out.drew.call hg hu hlt hcT); clear hg hu; have tg11 := N11.out.box.cell; have tf11 := N11.out.box.frozen; have ht11 := N11.out.box.lt; unfold signA at tg11))
          all_goals
            go_wp2_with fail
            go_meet
            exact ⟨s, _, B2, d2, N12.out⟩
      case rest =>
      obtain ⟨s', l', B', d', hN⟩ := hcut
      have N12 := Lib.hid hN
      have tg := hN.box.cell
      have tf := hN.box.frozen
      have ht7 := hN.box.lt
      have rg := hN.res.cell
      have rf := hN.res.frozen
      unfold signA at tg
      unfold zeroSA at rg
      clear hN N9
      go_wp2_with fail
      refine bodyPost_ret (v := .agg #[.int .i64 s'.val, .int .i64 s'.dh, .int .i64 s'.dr, .int .i64 s'.ds, .string s'.di, .int .i64 s'.mh, .int .i64 s'.mr, .int .i64 s'.ms, .string s'.mi, .bool s'.pend, .slice B' l'.length d']) (by simp [results, Try.results47, go_sem, rg]) rfl ⟨s', l', B', d', rfl, ?_, N12.out.len, ?_, ?_⟩
      · refine OwnL.wide (N12.out.own.chg (lo' := w.heap.size) (hi' := w.heap.size + 1) ?_ (.inr (by omega))) (by omega) ?_
        · (repeat (first | with_reducible refine Chg.setCell ?_ (by first | exact Nat.le_refl _ | (simp; done) | (simp; omega)) (by first | (simp; done) | (simp; omega)) _ | with_reducible refine Chg.alloc ?_ _ | with_reducible refine Chg.drew ?_)); (with_reducible exact Chg.refl _ _ _)
        · simp only [World.size_setCell]; exact Nat.le_refl _
      · exact N12.out.chg.trans_topT (D := w.heap.size) (hi := w.heap.size + 1) (Nat.le_refl _) (by (repeat (first | with_reducible refine Chg.setCell ?_ (by first | exact Nat.le_refl _ | (simp; done) | (simp; omega)) (by first | (simp; done) | (simp; omega)) _ | with_reducible refine Chg.alloc ?_ _ | with_reducible refine Chg.drew ?_)); (with_reducible exact Chg.refl _ _ _))
      · refine N12.out.cur.chg (lo := w.heap.size) (hi := w.heap.size + 1) ?_ hlt
        (repeat (first | with_reducible refine Chg.setCell ?_ (by first | exact Nat.le_refl _ | (simp; done) | (simp; omega)) (by first | (simp; done) | (simp; omega)) _ | with_reducible refine Chg.alloc ?_ _ | with_reducible refine Chg.drew ?_)); (with_reducible exact Chg.refl _ _ _)
end Go.Proofs.Yteifmlmmfghjjaa
