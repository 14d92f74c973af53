/- Draws of headers behind a store's last one: l15Behind. (written by wip/drawhead.py) -/
import Derived.Test.YtjdknaipmboekaaDoorDrawHead
import Derived.Test.YtjdknaipmboekaaDoorHead
import Derived.Test.YtjdknaipmboekaaDoorStoreFam
import Derived.Test.YtjdknaipmboekaaDoorReg
import Derived.WalkKit
import Derived.WalkSpells
import Derived.WalkLawsBesides
import Derived.Lib.Hide
namespace Go.Proofs.YtjdknaipmboekaaDoor
open Go.RowKit

theorem getkH {b : Act} {dd : Option Nat} {v : Value} {s : Nat} {X : Value} (h : b.tmps.getD s undef = X) (hd : dd ≠ some s) : (b.put dd v).tmps.getD s undef = X := by
  cases dd with
  | none => exact h
  | some d => exact (put_getD_ne b d s v (fun e => hd (by rw [e]))).trans h
theorem headIdB_size (p : HeaderD) : (headIdB p).size ≤ 8 := by
  unfold headIdB
  split
  · show (shortL (showL p)).toArray.size ≤ 8
    simp [shortL_len]
  · exact Nat.zero_le _

set_option maxRecDepth 100000 in
set_option maxHeartbeats 8000000 in
theorem l15Behind_any (cb : Nat) (A : Option Addr) (n c : Nat) (y : Int) (B : Option Addr) (d : Nat) (l : List HeaderD) (lo : Nat) (w : World) (hc : Cur w cb A n c) (ho : OwnL headC 6 34 w lo w.heap.size B l.length d l) (hlo : cb < lo) (hsm : ∀ x ∈ l, smallH x) (hln : l.length ≤ 1000) :
    Calls Tryd.prog 52 #[.pointer (some ⟨cb, 0, none⟩), .agg #[.slice B l.length d, .int .i64 y]] w (Drew cb A n c IsHead w) := by
  have HC := Lib.hid hc
  have HO := Lib.hid ho
  have HSM := Lib.hid hsm
  have hlt := hc.lt
  clear hc ho hsm
  have BP0 : Hid (Blk ((w.alloc (.cells #[.slice B l.length d, .int .i64 y] 29)).alloc (.cells #[.int .i64 0, .int .i64 0, .string ⟨#[]⟩, .string ⟨#[]⟩, .string ⟨#[]⟩, .string ⟨#[]⟩] 34)) w.heap.size 29 #[.slice B l.length d, .int .i64 y]) := Lib.hid (Blk.alloc (heap_alloc_new w _) _)
  have BR0 : Hid (Blk ((w.alloc (.cells #[.slice B l.length d, .int .i64 y] 29)).alloc (.cells #[.int .i64 0, .int .i64 0, .string ⟨#[]⟩, .string ⟨#[]⟩, .string ⟨#[]⟩, .string ⟨#[]⟩] 34)) (w.heap.size + 1) 34 #[.int .i64 0, .int .i64 0, .string ⟨#[]⟩, .string ⟨#[]⟩, .string ⟨#[]⟩, .string ⟨#[]⟩]) := Lib.hid (blk_newAt _ (w.heap.size + 1) _ _ (by simp))
  obtain ⟨w1, hw1⟩ : ∃ q, q = (w.alloc (.cells #[.slice B l.length d, .int .i64 y] 29)).alloc (.cells #[.int .i64 0, .int .i64 0, .string ⟨#[]⟩, .string ⟨#[]⟩, .string ⟨#[]⟩, .string ⟨#[]⟩] 34) := ⟨_, rfl⟩
  rw [← hw1] at BP0 BR0
  have HB1 : Hid (Below w.heap.size w w1) := by show Below _ _ _; rw [hw1]; exact ((Below.refl _ _).alloc (Nat.le_refl _) _).alloc (by simp) _
  have hz1 : w.heap.size + 1 < w1.heap.size := BR0.out.lt
  have HU1 : Hid (Cur w1 cb A n c) := HC.out.below HB1.out hlt (Nat.le_refl _)
  have HO1 := Lib.hid (HO.out.below HB1.out (Nat.le_refl _))
  have C1 : Hid (Chg cb (cb + 1) w w1) := Lib.hid ((Chg.refl cb (cb + 1) w).below_trans HB1.out)
  clear HC HO
  go_enter Tryd.func52, Tryd.ntmps52
  go_upto_region 1 with fail
  rw [← hw1]
  clear hw1 HB1
  have tg := BP0.out.cell
  have tl := BP0.out.lt
  by_cases h0 : l.length = 0
  · have h0i : (l.length : Int) = 0 := by omega
    go_wp2_with fail
    refine (l7Head_any cb A n c _ HU1.out).mono ?_
    rintro e w2 ⟨v, rfl, ⟨p, rfl, hp⟩, hg, hu⟩
    have HR2 := Lib.hid (show Blk w2 (w.heap.size + 1) _ _ from (hg.block _ hz1 (.inr (by omega))).trans BR0.out)
    have HU2 := Lib.hid hu
    have C2 := Lib.hid (C1.out.trans hg)
    have rg := HR2.out.cell
    have rf := HR2.out.frozen
    clear hg hu BR0 HU1 C1 BP0 tg
    go_wp2_with fail
    refine bodyPost_ret (v := .agg #[.int .i64 p.h, .int .i64 p.t, .string p.last, .string p.vals, .string p.next, .string p.data]) (by simp [results, Tryd.results52, go_sem, rg]) rfl ⟨_, rfl, ⟨p, rfl, hp⟩, ?_, ?_⟩
    · exact C2.out.trans_topT (D := w.heap.size) (hi := w.heap.size + 2) (Nat.le_refl _) (by (repeat (first | with_reducible refine Chg.setCell ?_ (by first | exact Nat.le_refl _ | (simp; done) | (simp; omega)) (by first | (simp; done) | (simp; omega)) _ | with_reducible refine Chg.alloc ?_ _ | with_reducible refine Chg.drew ?_)); (with_reducible exact Chg.refl _ _ _))
    · refine HU2.out.chg (lo := w.heap.size) (hi := w.heap.size + 2) ?_ hlt
      (repeat (first | with_reducible refine Chg.setCell ?_ (by first | exact Nat.le_refl _ | (simp; done) | (simp; omega)) (by first | (simp; done) | (simp; omega)) _ | with_reducible refine Chg.alloc ?_ _ | with_reducible refine Chg.drew ?_)); (with_reducible exact Chg.refl _ _ _)
  have h0i : ¬ (l.length : Int) = 0 := by omega
  have h0b : ((l.length : Int) == 0) = false := by simpa using h0i
  go_wp2_with fail
  refine (l1Once_any cb A n c 8 _ (by first | exact HU1.out.drew | exact HU1.out) (by omega)).mono ?_
  rintro e w2 ⟨v, rfl, ⟨b, rfl⟩, hg, hu⟩
  have HU2 := Lib.hid hu
  have HR2 := Lib.hid (show Blk w2 (w.heap.size + 1) _ _ from (hg.block _ hz1 (.inr (by omega))).trans BR0.out)
  have HT2 := Lib.hid (show Blk w2 w.heap.size _ _ from (hg.block _ tl (.inr (by omega))).trans BP0.out)
  have HO2 := Lib.hid (HO1.out.chg hg (.inr hlo))
  have C2 := Lib.hid (C1.out.trans hg)
  clear hg hu BR0 HU1 C1 BP0 tg HO1
  have tg := HT2.out.cell
  have hz2 := HT2.out.lt
  cases b
  case true =>
    go_wp2_with fail
    refine (l7Head_any cb A n c _ HU2.out).mono ?_
    rintro e w3 ⟨v, rfl, ⟨p, rfl, hp⟩, hg, hu⟩
    have HR3 := Lib.hid (show Blk w3 (w.heap.size + 1) _ _ from (hg.block _ HR2.out.lt (.inr (by omega))).trans HR2.out)
    have HU2 := Lib.hid hu
    have C2 := Lib.hid (C2.out.trans hg)
    have rg := HR3.out.cell
    have rf := HR3.out.frozen
    clear hg hu tg
    go_wp2_with fail
    refine bodyPost_ret (v := .agg #[.int .i64 p.h, .int .i64 p.t, .string p.last, .string p.vals, .string p.next, .string p.data]) (by simp [results, Tryd.results52, go_sem, rg]) rfl ⟨_, rfl, ⟨p, rfl, hp⟩, ?_, ?_⟩
    · exact C2.out.trans_topT (D := w.heap.size) (hi := w.heap.size + 2) (Nat.le_refl _) (by (repeat (first | with_reducible refine Chg.setCell ?_ (by first | exact Nat.le_refl _ | (simp; done) | (simp; omega)) (by first | (simp; done) | (simp; omega)) _ | with_reducible refine Chg.alloc ?_ _ | with_reducible refine Chg.drew ?_)); (with_reducible exact Chg.refl _ _ _))
    · refine HU2.out.chg (lo := w.heap.size) (hi := w.heap.size + 2) ?_ hlt
      (repeat (first | with_reducible refine Chg.setCell ?_ (by first | exact Nat.le_refl _ | (simp; done) | (simp; omega)) (by first | (simp; done) | (simp; omega)) _ | with_reducible refine Chg.alloc ?_ _ | with_reducible refine Chg.drew ?_)); (with_reducible exact Chg.refl _ _ _)
  obtain ⟨k, hk⟩ : ∃ k, l.length = k + 1 := ⟨l.length - 1, by omega⟩
  have hkl : k < l.length := by omega
  obtain ⟨p, hp⟩ : ∃ p, l[k]? = some p := ⟨l[k], List.getElem?_eq_getElem hkl⟩
  have hps := HSM.out p (List.mem_of_getElem? hp)
  have hki : (l.length : Int) - 1 = k := by omega
  have hk0 : (0 : Int) ≤ k := by omega
  have hk1 : (k : Int) < l.length := by omega
  obtain ⟨Bq, off, p', rfl, hBl, hp', c0, c1, c2, c3, c4, c5⟩ := head_cells (HO2.out.rd headC_len) hkl
  obtain rfl : p = p' := by rw [hp] at hp'; exact Option.some.inj hp'
  have HK := Lib.hid hk
  clear hk hp hp'
  go_upto_region 5 with fail
  obtain ⟨w3, hw3⟩ : ∃ q, q = w2.alloc (.cells #[.int .i64 p.h, .int .i64 p.t, .string p.last, .string p.vals, .string p.next, .string p.data] 34) := ⟨_, rfl⟩
  rw [← hw3]
  have hb3 : Below w2.heap.size w2 w3 := by rw [hw3]; exact (Below.refl _ _).alloc (Nat.le_refl _) _
  have HT3 : Hid (Blk w3 w2.heap.size 34 #[.int .i64 p.h, .int .i64 p.t, .string p.last, .string p.vals, .string p.next, .string p.data]) := Lib.hid (by rw [hw3]; exact heap_alloc_new w2 _)
  have HR3 := Lib.hid (HR2.out.below hb3 HR2.out.lt)
  have HU3 : Hid (Cur w3 cb A n c) := HU2.out.below hb3 (by omega) (Nat.le_refl _)
  have C3 := Lib.hid (C2.out.below_trans hb3)
  have hz3 : w2.heap.size < w3.heap.size := HT3.out.lt
  have hzR : w.heap.size + 1 < w2.heap.size := HR2.out.lt
  clear hw3 hb3 HR2 HU2 C2 HT2 tg HO2 c0 c1 c2 c3 c4 c5
  refine wp_region_core2 [0, 1, 2, 3, 4, 5, 6, 7, 8, 9, 10, 11, 12, 13, 14, 15, 16, 17, 18] (fun wx => Chg cb (cb + 1) w3 wx ∧ Cur wx cb A n c ∧ Blk wx w2.heap.size 34 #[.int .i64 p.h, .int .i64 p.t, .string p.last, .string p.vals, .string p.next, .string p.data] ∧ Blk wx (w.heap.size + 1) 34 #[.int .i64 0, .int .i64 0, .string ⟨#[]⟩, .string ⟨#[]⟩, .string ⟨#[]⟩, .string ⟨#[]⟩]) (fun j wa wb => match j with | _ => True) (fun i b w => match i with
    | 0 => b.tmps.getD 24 undef = .pointer (some ⟨w2.heap.size, 0, none⟩)
    | 1 => b.tmps.getD 25 undef = .int .i64 p.h
    | 2 => ∃ x : Int, b.tmps.getD 26 undef = .int .i64 x
    | 3 => b.tmps.getD 27 undef = .pointer (some ⟨w2.heap.size, 1, none⟩)
    | 4 => b.tmps.getD 28 undef = .int .i64 p.t
    | 5 => ∃ x : Int, b.tmps.getD 29 undef = .int .i64 x
    | 6 => b.tmps.getD 30 undef = .pointer (some ⟨cb, 0, none⟩)
    | 7 => ∃ x : Int, b.tmps.getD 31 undef = .int .i64 x
    | 8 => ∃ x : Int, b.tmps.getD 32 undef = .int .i64 x
    | 9 => b.tmps.getD 33 undef = .agg #[.int .i64 p.h, .int .i64 p.t, .string p.last, .string p.vals, .string p.next, .string p.data]
    | 10 => ∃ t : ByteArray, b.tmps.getD 34 undef = .string t ∧ t.size ≤ 8
    | 11 => b.tmps.getD 35 undef = .pointer (some ⟨w2.heap.size, 4, none⟩)
    | 12 => b.tmps.getD 36 undef = .string p.next
    | 13 => b.tmps.getD 37 undef = .pointer (some ⟨cb, 0, none⟩)
    | 14 => ∃ t : ByteArray, b.tmps.getD 38 undef = .string t ∧ t.size ≤ 1
    | 15 => ∃ t : ByteArray, b.tmps.getD 39 undef = .string t ∧ t.size ≤ 8
    | 16 => b.tmps.getD 40 undef = .pointer (some ⟨cb, 0, none⟩)
    | 17 => ∃ t : ByteArray, b.tmps.getD 41 undef = .string t ∧ t.size ≤ 3
    | 18 => ∃ q : HeaderD, b.tmps.getD 42 undef = .agg #[.int .i64 q.h, .int .i64 q.t, .string q.last, .string q.vals, .string q.next, .string q.data] ∧ smallH q
    | _ => True) (by kernel_rfl) (by kernel_rfl) (⟨(Chg.refl _ _ _).drew, HU3.out.drew, HT3.out, HR3.out⟩) ?_ ?_ ?_
  · intro b wa wb i j oj v hi hj hij hoj hdep hE h
    simp only [List.mem_cons, List.not_mem_nil, or_false] at hi hj
    rcases hj with rfl | rfl | rfl | rfl | rfl | rfl | rfl | rfl | rfl | rfl | rfl | rfl | rfl | rfl | rfl | rfl | rfl | rfl | rfl
    all_goals obtain rfl := Option.some.inj hoj
    · rcases hi with rfl | rfl | rfl | rfl | rfl | rfl | rfl | rfl | rfl | rfl | rfl | rfl | rfl | rfl | rfl | rfl | rfl | rfl | rfl
      all_goals first | exact absurd rfl hij | exact trivial | (simp only at hE h ⊢; (first | exact getkH h (by decide) | (obtain ⟨t1, e, h⟩ := h; exact ⟨t1, getkH e (by decide), h⟩) | (obtain ⟨t1, e⟩ := h; exact ⟨t1, getkH e (by decide)⟩))) | exact absurd rfl (hdep _ rfl ⟨0, .data⟩ (by simp) rfl)
    · rcases hi with rfl | rfl | rfl | rfl | rfl | rfl | rfl | rfl | rfl | rfl | rfl | rfl | rfl | rfl | rfl | rfl | rfl | rfl | rfl
      all_goals first | exact absurd rfl hij | exact trivial | (simp only at hE h ⊢; (first | exact getkH h (by decide) | (obtain ⟨t1, e, h⟩ := h; exact ⟨t1, getkH e (by decide), h⟩) | (obtain ⟨t1, e⟩ := h; exact ⟨t1, getkH e (by decide)⟩))) | exact absurd rfl (hdep _ rfl ⟨1, .data⟩ (by simp) rfl)
    · rcases hi with rfl | rfl | rfl | rfl | rfl | rfl | rfl | rfl | rfl | rfl | rfl | rfl | rfl | rfl | rfl | rfl | rfl | rfl | rfl
      all_goals first | exact absurd rfl hij | exact trivial | (simp only at hE h ⊢; (first | exact getkH h (by decide) | (obtain ⟨t1, e, h⟩ := h; exact ⟨t1, getkH e (by decide), h⟩) | (obtain ⟨t1, e⟩ := h; exact ⟨t1, getkH e (by decide)⟩))) | exact absurd rfl (hdep _ rfl ⟨2, .data⟩ (by simp) rfl)
    · rcases hi with rfl | rfl | rfl | rfl | rfl | rfl | rfl | rfl | rfl | rfl | rfl | rfl | rfl | rfl | rfl | rfl | rfl | rfl | rfl
      all_goals first | exact absurd rfl hij | exact trivial | (simp only at hE h ⊢; (first | exact getkH h (by decide) | (obtain ⟨t1, e, h⟩ := h; exact ⟨t1, getkH e (by decide), h⟩) | (obtain ⟨t1, e⟩ := h; exact ⟨t1, getkH e (by decide)⟩))) | exact absurd rfl (hdep _ rfl ⟨3, .data⟩ (by simp) rfl)
    · rcases hi with rfl | rfl | rfl | rfl | rfl | rfl | rfl | rfl | rfl | rfl | rfl | rfl | rfl | rfl | rfl | rfl | rfl | rfl | rfl
      all_goals first | exact absurd rfl hij | exact trivial | (simp only at hE h ⊢; (first | exact getkH h (by decide) | (obtain ⟨t1, e, h⟩ := h; exact ⟨t1, getkH e (by decide), h⟩) | (obtain ⟨t1, e⟩ := h; exact ⟨t1, getkH e (by decide)⟩))) | exact absurd rfl (hdep _ rfl ⟨4, .data⟩ (by simp) rfl)
    · rcases hi with rfl | rfl | rfl | rfl | rfl | rfl | rfl | rfl | rfl | rfl | rfl | rfl | rfl | rfl | rfl | rfl | rfl | rfl | rfl
      all_goals first | exact absurd rfl hij | exact trivial | (simp only at hE h ⊢; (first | exact getkH h (by decide) | (obtain ⟨t1, e, h⟩ := h; exact ⟨t1, getkH e (by decide), h⟩) | (obtain ⟨t1, e⟩ := h; exact ⟨t1, getkH e (by decide)⟩))) | exact absurd rfl (hdep _ rfl ⟨5, .data⟩ (by simp) rfl)
    · rcases hi with rfl | rfl | rfl | rfl | rfl | rfl | rfl | rfl | rfl | rfl | rfl | rfl | rfl | rfl | rfl | rfl | rfl | rfl | rfl
      all_goals first | exact absurd rfl hij | exact trivial | (simp only at hE h ⊢; (first | exact getkH h (by decide) | (obtain ⟨t1, e, h⟩ := h; exact ⟨t1, getkH e (by decide), h⟩) | (obtain ⟨t1, e⟩ := h; exact ⟨t1, getkH e (by decide)⟩))) | exact absurd rfl (hdep _ rfl ⟨6, .data⟩ (by simp) rfl)
    · rcases hi with rfl | rfl | rfl | rfl | rfl | rfl | rfl | rfl | rfl | rfl | rfl | rfl | rfl | rfl | rfl | rfl | rfl | rfl | rfl
      all_goals first | exact absurd rfl hij | exact trivial | (simp only at hE h ⊢; (first | exact getkH h (by decide) | (obtain ⟨t1, e, h⟩ := h; exact ⟨t1, getkH e (by decide), h⟩) | (obtain ⟨t1, e⟩ := h; exact ⟨t1, getkH e (by decide)⟩))) | exact absurd rfl (hdep _ rfl ⟨7, .data⟩ (by simp) rfl)
    · rcases hi with rfl | rfl | rfl | rfl | rfl | rfl | rfl | rfl | rfl | rfl | rfl | rfl | rfl | rfl | rfl | rfl | rfl | rfl | rfl
      all_goals first | exact absurd rfl hij | exact trivial | (simp only at hE h ⊢; (first | exact getkH h (by decide) | (obtain ⟨t1, e, h⟩ := h; exact ⟨t1, getkH e (by decide), h⟩) | (obtain ⟨t1, e⟩ := h; exact ⟨t1, getkH e (by decide)⟩))) | exact absurd rfl (hdep _ rfl ⟨8, .data⟩ (by simp) rfl)
    · rcases hi with rfl | rfl | rfl | rfl | rfl | rfl | rfl | rfl | rfl | rfl | rfl | rfl | rfl | rfl | rfl | rfl | rfl | rfl | rfl
      all_goals first | exact absurd rfl hij | exact trivial | (simp only at hE h ⊢; (first | exact getkH h (by decide) | (obtain ⟨t1, e, h⟩ := h; exact ⟨t1, getkH e (by decide), h⟩) | (obtain ⟨t1, e⟩ := h; exact ⟨t1, getkH e (by decide)⟩))) | exact absurd rfl (hdep _ rfl ⟨9, .data⟩ (by simp) rfl)
    · rcases hi with rfl | rfl | rfl | rfl | rfl | rfl | rfl | rfl | rfl | rfl | rfl | rfl | rfl | rfl | rfl | rfl | rfl | rfl | rfl
      all_goals first | exact absurd rfl hij | exact trivial | (simp only at hE h ⊢; (first | exact getkH h (by decide) | (obtain ⟨t1, e, h⟩ := h; exact ⟨t1, getkH e (by decide), h⟩) | (obtain ⟨t1, e⟩ := h; exact ⟨t1, getkH e (by decide)⟩))) | exact absurd rfl (hdep _ rfl ⟨10, .data⟩ (by simp) rfl)
    · rcases hi with rfl | rfl | rfl | rfl | rfl | rfl | rfl | rfl | rfl | rfl | rfl | rfl | rfl | rfl | rfl | rfl | rfl | rfl | rfl
      all_goals first | exact absurd rfl hij | exact trivial | (simp only at hE h ⊢; (first | exact getkH h (by decide) | (obtain ⟨t1, e, h⟩ := h; exact ⟨t1, getkH e (by decide), h⟩) | (obtain ⟨t1, e⟩ := h; exact ⟨t1, getkH e (by decide)⟩))) | exact absurd rfl (hdep _ rfl ⟨11, .data⟩ (by simp) rfl)
    · rcases hi with rfl | rfl | rfl | rfl | rfl | rfl | rfl | rfl | rfl | rfl | rfl | rfl | rfl | rfl | rfl | rfl | rfl | rfl | rfl
      all_goals first | exact absurd rfl hij | exact trivial | (simp only at hE h ⊢; (first | exact getkH h (by decide) | (obtain ⟨t1, e, h⟩ := h; exact ⟨t1, getkH e (by decide), h⟩) | (obtain ⟨t1, e⟩ := h; exact ⟨t1, getkH e (by decide)⟩))) | exact absurd rfl (hdep _ rfl ⟨12, .data⟩ (by simp) rfl)
    · rcases hi with rfl | rfl | rfl | rfl | rfl | rfl | rfl | rfl | rfl | rfl | rfl | rfl | rfl | rfl | rfl | rfl | rfl | rfl | rfl
      all_goals first | exact absurd rfl hij | exact trivial | (simp only at hE h ⊢; (first | exact getkH h (by decide) | (obtain ⟨t1, e, h⟩ := h; exact ⟨t1, getkH e (by decide), h⟩) | (obtain ⟨t1, e⟩ := h; exact ⟨t1, getkH e (by decide)⟩))) | exact absurd rfl (hdep _ rfl ⟨13, .data⟩ (by simp) rfl)
    · rcases hi with rfl | rfl | rfl | rfl | rfl | rfl | rfl | rfl | rfl | rfl | rfl | rfl | rfl | rfl | rfl | rfl | rfl | rfl | rfl
      all_goals first | exact absurd rfl hij | exact trivial | (simp only at hE h ⊢; (first | exact getkH h (by decide) | (obtain ⟨t1, e, h⟩ := h; exact ⟨t1, getkH e (by decide), h⟩) | (obtain ⟨t1, e⟩ := h; exact ⟨t1, getkH e (by decide)⟩))) | exact absurd rfl (hdep _ rfl ⟨14, .data⟩ (by simp) rfl)
    · rcases hi with rfl | rfl | rfl | rfl | rfl | rfl | rfl | rfl | rfl | rfl | rfl | rfl | rfl | rfl | rfl | rfl | rfl | rfl | rfl
      all_goals first | exact absurd rfl hij | exact trivial | (simp only at hE h ⊢; (first | exact getkH h (by decide) | (obtain ⟨t1, e, h⟩ := h; exact ⟨t1, getkH e (by decide), h⟩) | (obtain ⟨t1, e⟩ := h; exact ⟨t1, getkH e (by decide)⟩))) | exact absurd rfl (hdep _ rfl ⟨15, .data⟩ (by simp) rfl)
    · rcases hi with rfl | rfl | rfl | rfl | rfl | rfl | rfl | rfl | rfl | rfl | rfl | rfl | rfl | rfl | rfl | rfl | rfl | rfl | rfl
      all_goals first | exact absurd rfl hij | exact trivial | (simp only at hE h ⊢; (first | exact getkH h (by decide) | (obtain ⟨t1, e, h⟩ := h; exact ⟨t1, getkH e (by decide), h⟩) | (obtain ⟨t1, e⟩ := h; exact ⟨t1, getkH e (by decide)⟩))) | exact absurd rfl (hdep _ rfl ⟨16, .data⟩ (by simp) rfl)
    · rcases hi with rfl | rfl | rfl | rfl | rfl | rfl | rfl | rfl | rfl | rfl | rfl | rfl | rfl | rfl | rfl | rfl | rfl | rfl | rfl
      all_goals first | exact absurd rfl hij | exact trivial | (simp only at hE h ⊢; (first | exact getkH h (by decide) | (obtain ⟨t1, e, h⟩ := h; exact ⟨t1, getkH e (by decide), h⟩) | (obtain ⟨t1, e⟩ := h; exact ⟨t1, getkH e (by decide)⟩))) | exact absurd rfl (hdep _ rfl ⟨17, .data⟩ (by simp) rfl)
    · rcases hi with rfl | rfl | rfl | rfl | rfl | rfl | rfl | rfl | rfl | rfl | rfl | rfl | rfl | rfl | rfl | rfl | rfl | rfl | rfl
      all_goals first | exact absurd rfl hij | exact trivial | (simp only at hE h ⊢; (first | exact getkH h (by decide) | (obtain ⟨t1, e, h⟩ := h; exact ⟨t1, getkH e (by decide), h⟩) | (obtain ⟨t1, e⟩ := h; exact ⟨t1, getkH e (by decide)⟩))) | exact absurd rfl (hdep _ rfl ⟨18, .data⟩ (by simp) rfl)
  · intro j o hj ho a' w' hC hsame hdep
    have hz : w3.heap.size ≤ w'.heap.size := hC.1.size
    simp only [List.mem_cons, List.not_mem_nil, or_false] at hj
    rcases hj with rfl | rfl | rfl | rfl | rfl | rfl | rfl | rfl | rfl | rfl | rfl | rfl | rfl | rfl | rfl | rfl | rfl | rfl | rfl
    all_goals obtain rfl := Option.some.inj ho
    · have hs : a'.tmps.getD 6 undef = .pointer (some ⟨w2.heap.size, 0, none⟩) := hsame 6 (by rfl)
      refine wp_val (w2 := w') (.pointer (some ⟨w2.heap.size, 0, none⟩)) (fun K hK => ?_) ⟨_, rfl, hC, trivial, fun b hb hb2 => hb 24 rfl⟩
      clear hsame hdep
      unfold Oper.wp
      simp [execOp, Act.eval, go_sem, hs]
      exact hK
    · have e1 : a'.tmps.getD 24 undef = .pointer (some ⟨w2.heap.size, 0, none⟩) := hdep ⟨0, .data⟩ (by simp) rfl
      have zz := hC.2.2.1.cell
      refine wp_val (w2 := w') (.int .i64 p.h) (fun K hK => ?_) ⟨_, rfl, hC, trivial, fun b hb hb2 => hb 25 rfl⟩
      clear hsame hdep
      unfold Oper.wp
      simp [execOp, Act.eval, go_sem, e1, zz]
      exact hK
    · have e1 : a'.tmps.getD 25 undef = .int .i64 p.h := hdep ⟨1, .data⟩ (by simp) rfl
      refine wp_call (fun u wq => (∃ x : Int, u = .int .i64 x) ∧ wq = w') (fun K hK => ?_) ?_
      · clear hsame hdep
        unfold Oper.wp
        simp [execOp, Act.eval, go_sem, e1]
        exact hK _ _ ⟨⟨_, rfl⟩, rfl⟩
      · rintro u w3' ⟨⟨x, rfl⟩, rfl⟩
        exact ⟨_, rfl, hC, trivial, fun b hb _ => ⟨x, hb 26 rfl⟩⟩
    · have hs : a'.tmps.getD 6 undef = .pointer (some ⟨w2.heap.size, 0, none⟩) := hsame 6 (by rfl)
      refine wp_val (w2 := w') (.pointer (some ⟨w2.heap.size, 1, none⟩)) (fun K hK => ?_) ⟨_, rfl, hC, trivial, fun b hb hb2 => hb 27 rfl⟩
      clear hsame hdep
      unfold Oper.wp
      simp [execOp, Act.eval, go_sem, hs]
      exact hK
    · have e1 : a'.tmps.getD 27 undef = .pointer (some ⟨w2.heap.size, 1, none⟩) := hdep ⟨3, .data⟩ (by simp) rfl
      have zz := hC.2.2.1.cell
      refine wp_val (w2 := w') (.int .i64 p.t) (fun K hK => ?_) ⟨_, rfl, hC, trivial, fun b hb hb2 => hb 28 rfl⟩
      clear hsame hdep
      unfold Oper.wp
      simp [execOp, Act.eval, go_sem, e1, zz]
      exact hK
    · have e1 : a'.tmps.getD 28 undef = .int .i64 p.t := hdep ⟨4, .data⟩ (by simp) rfl
      refine wp_call (fun u wq => (∃ x : Int, u = .int .i64 x) ∧ wq = w') (fun K hK => ?_) ?_
      · clear hsame hdep
        unfold Oper.wp
        simp [execOp, Act.eval, go_sem, e1]
        exact hK _ _ ⟨⟨_, rfl⟩, rfl⟩
      · rintro u w3' ⟨⟨x, rfl⟩, rfl⟩
        exact ⟨_, rfl, hC, trivial, fun b hb _ => ⟨x, hb 29 rfl⟩⟩
    · have hs : a'.tmps.getD 0 undef = .pointer (some ⟨cb, 0, none⟩) := hsame 0 (by rfl)
      refine wp_val (w2 := w') (.pointer (some ⟨cb, 0, none⟩)) (fun K hK => ?_) ⟨_, rfl, hC, trivial, fun b hb hb2 => hb 30 rfl⟩
      clear hsame hdep
      unfold Oper.wp
      simp [execOp, Act.eval, go_sem, hs]
      exact hK
    · have e0 : a'.tmps.getD 30 undef = .pointer (some ⟨cb, 0, none⟩) := hdep ⟨6, .data⟩ (by simp) rfl
      refine wp_call (fun u wq => (∃ x : Int, u = .int .i64 x) ∧ (fun wx => Chg cb (cb + 1) w3 wx ∧ Cur wx cb A n c ∧ Blk wx w2.heap.size 34 #[.int .i64 p.h, .int .i64 p.t, .string p.last, .string p.vals, .string p.next, .string p.data] ∧ Blk wx (w.heap.size + 1) 34 #[.int .i64 0, .int .i64 0, .string ⟨#[]⟩, .string ⟨#[]⟩, .string ⟨#[]⟩, .string ⟨#[]⟩]) wq) (fun K hK => ?_) ?_
      · clear hsame hdep
        unfold Oper.wp
        simp [Act.eval, go_sem, e0]
        refine (l1Below_any cb A n c 4 _ hC.2.1 (by omega)).mono ?_
        rintro e w4 ⟨v, rfl, ⟨x, rfl, _, _⟩, hg, hu⟩
        exact hK _ _ ⟨⟨x, rfl⟩, ⟨hC.1.trans hg, hu, (hg.block _ hC.2.2.1.lt (.inr (by omega))).trans hC.2.2.1, (hg.block _ hC.2.2.2.lt (.inr (by omega))).trans hC.2.2.2⟩⟩
      · rintro u w4 ⟨⟨x, rfl⟩, hcl⟩
        exact ⟨_, rfl, hcl, trivial, fun b hb _ => ⟨x, hb 31 rfl⟩⟩
    · obtain ⟨y0, e0⟩ := hdep ⟨5, .data⟩ (by simp) rfl
      obtain ⟨y1, e1⟩ := hdep ⟨7, .data⟩ (by simp) rfl
      refine wp_call (fun u wq => (∃ x : Int, u = .int .i64 x) ∧ wq = w') (fun K hK => ?_) ?_
      · clear hsame hdep
        unfold Oper.wp
        simp [execOp, Act.eval, go_sem, e0, e1]
        exact hK _ _ ⟨⟨_, rfl⟩, rfl⟩
      · rintro u w3' ⟨⟨x, rfl⟩, rfl⟩
        exact ⟨_, rfl, hC, trivial, fun b hb _ => ⟨x, hb 32 rfl⟩⟩
    · have hs : a'.tmps.getD 6 undef = .pointer (some ⟨w2.heap.size, 0, none⟩) := hsame 6 (by rfl)
      have zz := hC.2.2.1.cell
      refine wp_val (w2 := w') (.agg #[.int .i64 p.h, .int .i64 p.t, .string p.last, .string p.vals, .string p.next, .string p.data]) (fun K hK => ?_) ⟨_, rfl, hC, trivial, fun b hb hb2 => hb 33 rfl⟩
      clear hsame hdep
      unfold Oper.wp
      simp [execOp, Act.eval, go_sem, hs, zz]
      exact hK
    · have e0 : a'.tmps.getD 33 undef = .agg #[.int .i64 p.h, .int .i64 p.t, .string p.last, .string p.vals, .string p.next, .string p.data] := hdep ⟨9, .data⟩ (by simp) rfl
      refine wp_call (fun u wq => (∃ t : ByteArray, u = .string t ∧ t.size ≤ 8) ∧ (fun wx => Chg cb (cb + 1) w3 wx ∧ Cur wx cb A n c ∧ Blk wx w2.heap.size 34 #[.int .i64 p.h, .int .i64 p.t, .string p.last, .string p.vals, .string p.next, .string p.data] ∧ Blk wx (w.heap.size + 1) 34 #[.int .i64 0, .int .i64 0, .string ⟨#[]⟩, .string ⟨#[]⟩, .string ⟨#[]⟩, .string ⟨#[]⟩]) wq) (fun K hK => ?_) ?_
      · clear hsame hdep
        unfold Oper.wp
        simp [Act.eval, go_sem, e0]
        refine (sHeadId_any p _).mono ?_
        rintro e w4 ⟨rfl, hb3⟩
        exact hK _ _ ⟨⟨_, rfl, headIdB_size p⟩, ⟨hC.1.below_trans hb3, hC.2.1.below hb3 hC.2.1.lt (Nat.le_refl _), hC.2.2.1.below hb3 hC.2.2.1.lt, hC.2.2.2.below hb3 hC.2.2.2.lt⟩⟩
      · rintro u w4 ⟨⟨t, rfl, ht⟩, hcl⟩
        exact ⟨_, rfl, hcl, trivial, fun b hb _ => ⟨t, hb 34 rfl, ht⟩⟩
    · have hs : a'.tmps.getD 6 undef = .pointer (some ⟨w2.heap.size, 0, none⟩) := hsame 6 (by rfl)
      refine wp_val (w2 := w') (.pointer (some ⟨w2.heap.size, 4, none⟩)) (fun K hK => ?_) ⟨_, rfl, hC, trivial, fun b hb hb2 => hb 35 rfl⟩
      clear hsame hdep
      unfold Oper.wp
      simp [execOp, Act.eval, go_sem, hs]
      exact hK
    · have e1 : a'.tmps.getD 35 undef = .pointer (some ⟨w2.heap.size, 4, none⟩) := hdep ⟨11, .data⟩ (by simp) rfl
      have zz := hC.2.2.1.cell
      refine wp_val (w2 := w') (.string p.next) (fun K hK => ?_) ⟨_, rfl, hC, trivial, fun b hb hb2 => hb 36 rfl⟩
      clear hsame hdep
      unfold Oper.wp
      simp [execOp, Act.eval, go_sem, e1, zz]
      exact hK
    · have hs : a'.tmps.getD 0 undef = .pointer (some ⟨cb, 0, none⟩) := hsame 0 (by rfl)
      refine wp_val (w2 := w') (.pointer (some ⟨cb, 0, none⟩)) (fun K hK => ?_) ⟨_, rfl, hC, trivial, fun b hb hb2 => hb 37 rfl⟩
      clear hsame hdep
      unfold Oper.wp
      simp [execOp, Act.eval, go_sem, hs]
      exact hK
    · have e0 : a'.tmps.getD 37 undef = .pointer (some ⟨cb, 0, none⟩) := hdep ⟨13, .data⟩ (by simp) rfl
      refine wp_call (fun u wq => (∃ t : ByteArray, u = .string t ∧ t.size ≤ 1) ∧ (fun wx => Chg cb (cb + 1) w3 wx ∧ Cur wx cb A n c ∧ Blk wx w2.heap.size 34 #[.int .i64 p.h, .int .i64 p.t, .string p.last, .string p.vals, .string p.next, .string p.data] ∧ Blk wx (w.heap.size + 1) 34 #[.int .i64 0, .int .i64 0, .string ⟨#[]⟩, .string ⟨#[]⟩, .string ⟨#[]⟩, .string ⟨#[]⟩]) wq) (fun K hK => ?_) ?_
      · clear hsame hdep
        unfold Oper.wp
        simp [Act.eval, go_sem, e0]
        refine (l1Text_any cb A n c 1 _ hC.2.1 (by decide)).mono ?_
        rintro e w4 ⟨v, rfl, ⟨t, rfl, ht⟩, hg, hu⟩
        exact hK _ _ ⟨⟨t, rfl, ht⟩, ⟨hC.1.trans hg, hu, (hg.block _ hC.2.2.1.lt (.inr (by omega))).trans hC.2.2.1, (hg.block _ hC.2.2.2.lt (.inr (by omega))).trans hC.2.2.2⟩⟩
      · rintro u w4 ⟨⟨t, rfl, ht⟩, hcl⟩
        exact ⟨_, rfl, hcl, trivial, fun b hb _ => ⟨t, hb 38 rfl, ht⟩⟩
    · obtain ⟨t0, e0, ht0⟩ := hdep ⟨14, .data⟩ (by simp) rfl
      refine wp_call (fun u wq => (∃ t : ByteArray, u = .string t ∧ t.size ≤ 8) ∧ (fun wx => Chg cb (cb + 1) w3 wx ∧ Cur wx cb A n c ∧ Blk wx w2.heap.size 34 #[.int .i64 p.h, .int .i64 p.t, .string p.last, .string p.vals, .string p.next, .string p.data] ∧ Blk wx (w.heap.size + 1) 34 #[.int .i64 0, .int .i64 0, .string ⟨#[]⟩, .string ⟨#[]⟩, .string ⟨#[]⟩, .string ⟨#[]⟩]) wq) (fun K hK => ?_) ?_
      · clear hsame hdep
        unfold Oper.wp
        simp [Act.eval, go_sem, e0]
        refine (sShort_text t0 _ (by omega)).mono ?_
        rintro e w4 ⟨v, rfl, ⟨t, rfl, ht⟩, hb3⟩
        exact hK _ _ ⟨⟨t, rfl, ht⟩, ⟨hC.1.below_trans hb3, hC.2.1.below hb3 hC.2.1.lt (Nat.le_refl _), hC.2.2.1.below hb3 hC.2.2.1.lt, hC.2.2.2.below hb3 hC.2.2.2.lt⟩⟩
      · rintro u w4 ⟨⟨t, rfl, ht⟩, hcl⟩
        exact ⟨_, rfl, hcl, trivial, fun b hb _ => ⟨t, hb 39 rfl, ht⟩⟩
    · have hs : a'.tmps.getD 0 undef = .pointer (some ⟨cb, 0, none⟩) := hsame 0 (by rfl)
      refine wp_val (w2 := w') (.pointer (some ⟨cb, 0, none⟩)) (fun K hK => ?_) ⟨_, rfl, hC, trivial, fun b hb hb2 => hb 40 rfl⟩
      clear hsame hdep
      unfold Oper.wp
      simp [execOp, Act.eval, go_sem, hs]
      exact hK
    · have e0 : a'.tmps.getD 40 undef = .pointer (some ⟨cb, 0, none⟩) := hdep ⟨16, .data⟩ (by simp) rfl
      refine wp_call (fun u wq => (∃ t : ByteArray, u = .string t ∧ t.size ≤ 3) ∧ (fun wx => Chg cb (cb + 1) w3 wx ∧ Cur wx cb A n c ∧ Blk wx w2.heap.size 34 #[.int .i64 p.h, .int .i64 p.t, .string p.last, .string p.vals, .string p.next, .string p.data] ∧ Blk wx (w.heap.size + 1) 34 #[.int .i64 0, .int .i64 0, .string ⟨#[]⟩, .string ⟨#[]⟩, .string ⟨#[]⟩, .string ⟨#[]⟩]) wq) (fun K hK => ?_) ?_
      · clear hsame hdep
        unfold Oper.wp
        simp [Act.eval, go_sem, e0]
        refine (l1Text_any cb A n c 3 _ hC.2.1 (by decide)).mono ?_
        rintro e w4 ⟨v, rfl, ⟨t, rfl, ht⟩, hg, hu⟩
        exact hK _ _ ⟨⟨t, rfl, ht⟩, ⟨hC.1.trans hg, hu, (hg.block _ hC.2.2.1.lt (.inr (by omega))).trans hC.2.2.1, (hg.block _ hC.2.2.2.lt (.inr (by omega))).trans hC.2.2.2⟩⟩
      · rintro u w4 ⟨⟨t, rfl, ht⟩, hcl⟩
        exact ⟨_, rfl, hcl, trivial, fun b hb _ => ⟨t, hb 41 rfl, ht⟩⟩
    · obtain ⟨x0, e0⟩ := hdep ⟨2, .data⟩ (by simp) rfl
      obtain ⟨x1, e1⟩ := hdep ⟨8, .data⟩ (by simp) rfl
      obtain ⟨x2, e2, h2⟩ := hdep ⟨10, .data⟩ (by simp) rfl
      have e3 : a'.tmps.getD 36 undef = .string p.next := hdep ⟨12, .data⟩ (by simp) rfl
      obtain ⟨x4, e4, h4⟩ := hdep ⟨15, .data⟩ (by simp) rfl
      obtain ⟨x5, e5, h5⟩ := hdep ⟨17, .data⟩ (by simp) rfl
      have q0 : (a'.tmps[26]?).getD undef = .int .i64 x0 := by simpa using e0
      have q1 : (a'.tmps[32]?).getD undef = .int .i64 x1 := by simpa using e1
      have q2 : (a'.tmps[34]?).getD undef = .string x2 := by simpa using e2
      have q3 : (a'.tmps[36]?).getD undef = .string p.next := by simpa using e3
      have q4 : (a'.tmps[39]?).getD undef = .string x4 := by simpa using e4
      have q5 : (a'.tmps[41]?).getD undef = .string x5 := by simpa using e5
      have hsq : smallH ⟨x0, x1, x2, p.next, x4, x5⟩ := ⟨(by show x2.size ≤ 40; omega), hps.2.2.1, (by show x4.size ≤ 40; omega), (by show x5.size ≤ 40; omega)⟩
      refine wp_val (w2 := w') (.agg #[.int .i64 x0, .int .i64 x1, .string x2, .string p.next, .string x4, .string x5]) (fun K hK => ?_) ⟨_, rfl, hC, trivial, fun b hb hb2 => ⟨⟨x0, x1, x2, p.next, x4, x5⟩, hb 42 rfl, hsq⟩⟩
      clear hsame hdep hsq
      unfold Oper.wp
      simp [execOp, Act.eval, go_sem, q0, q1, q2, q3, q4, q5]
      exact hK
  · intro a' w' hC ha hP
    obtain ⟨q, t4, hp⟩ := hP 18 (by simp)
    clear hP
    simp only [coreOps, List.filterMap_cons, List.filterMap_nil, List.getElem?_cons_zero, List.getElem?_cons_succ, fillA, slotOf, Act.put, t4] at ha
    generalize a'.tmps.getD 24 undef = u24 at ha
    generalize a'.tmps.getD 25 undef = u25 at ha
    generalize a'.tmps.getD 26 undef = u26 at ha
    generalize a'.tmps.getD 27 undef = u27 at ha
    generalize a'.tmps.getD 28 undef = u28 at ha
    generalize a'.tmps.getD 29 undef = u29 at ha
    generalize a'.tmps.getD 30 undef = u30 at ha
    generalize a'.tmps.getD 31 undef = u31 at ha
    generalize a'.tmps.getD 32 undef = u32 at ha
    generalize a'.tmps.getD 33 undef = u33 at ha
    generalize a'.tmps.getD 34 undef = u34 at ha
    generalize a'.tmps.getD 35 undef = u35 at ha
    generalize a'.tmps.getD 36 undef = u36 at ha
    generalize a'.tmps.getD 37 undef = u37 at ha
    generalize a'.tmps.getD 38 undef = u38 at ha
    generalize a'.tmps.getD 39 undef = u39 at ha
    generalize a'.tmps.getD 40 undef = u40 at ha
    generalize a'.tmps.getD 41 undef = u41 at ha
    subst ha
    clear t4
    have C2 := Lib.hid (C3.out.trans hC.1)
    have HU2 := Lib.hid hC.2.1
    have rg := hC.2.2.2.cell
    have rf := hC.2.2.2.frozen
    clear hC
    show wpAny _ _ _ _ 1 _ _ _
    refine wpAny_ready (rs := [19]) (by kernel_rfl) (by simp) ?_
    refine AllReady.cons rfl (fun K hK => ?_) AllReady.nil
    unfold Oper.wp
    simp [execOp, Act.eval, go_sem, rg, rf]
    refine hK _ _ ?_
    clear hK K
    refine wpAny_done (by kernel_rfl) ?_ _
    go_wp2_with fail
    refine bodyPost_ret (v := .agg #[.int .i64 q.h, .int .i64 q.t, .string q.last, .string q.vals, .string q.next, .string q.data]) (by simp [results, Tryd.results52, go_sem, rg]) rfl ⟨_, rfl, ⟨q, rfl, hp⟩, ?_, ?_⟩
    · exact C2.out.trans_topT (D := w.heap.size) (hi := w.heap.size + 2) (Nat.le_refl _) (by (repeat (first | with_reducible refine Chg.setCell ?_ (by first | exact Nat.le_refl _ | (simp; done) | (simp; omega)) (by first | (simp; done) | (simp; omega)) _ | with_reducible refine Chg.alloc ?_ _ | with_reducible refine Chg.drew ?_)); (with_reducible exact Chg.refl _ _ _))
    · refine HU2.out.chg (lo := w.heap.size) (hi := w.heap.size + 2) ?_ hlt
      (repeat (first | with_reducible refine Chg.setCell ?_ (by first | exact Nat.le_refl _ | (simp; done) | (simp; omega)) (by first | (simp; done) | (simp; omega)) _ | with_reducible refine Chg.alloc ?_ _ | with_reducible refine Chg.drew ?_)); (with_reducible exact Chg.refl _ _ _)
end Go.Proofs.YtjdknaipmboekaaDoor
