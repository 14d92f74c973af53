/- l1Spoil: a drawn text, spoiled. (written by wip/spoil.py) -/
import Derived.Test.YteaggbbimhpolaaDoorDrawText
import Derived.Test.YteaggbbimhpolaaDoorReg
import Derived.Deep.RegionWith
import Derived.Deep.DeepCutAuto
import Derived.WalkKit
import Derived.WalkSpells
import Derived.WalkLawsBesides
import Derived.Lib.Hide
namespace Go.Proofs.YteaggbbimhpolaaDoor
open Go.RowKit

theorem getkS {b : Act} {dd : Option Nat} {v : Value} {s : Nat} {X : Value} (h : b.tmps.getD s undef = X) (hd : dd ≠ some s) : (b.put dd v).tmps.getD s undef = X := by
  cases dd with
  | none => exact h
  | some d => exact (put_getD_ne b d s v (fun e => hd (by rw [e]))).trans h
theorem conv_one {w : World} {q : Nat} {x : Int} (hb : Blk w q 5 #[.int .u8 x]) (h0 : 0 ≤ x) (h1 : x < 256) :
    (convert 53 9 (.slice (some ⟨q, 0, none⟩) 1 1)).run Tryd.prog w = .ok (.string ⟨[UInt8.ofNat x.toNat].toArray⟩) w := by
  have h := run_convert_bytes_back (P := Tryd.prog) w 53 9 5 ⟨q, 0, none⟩ 1 [UInt8.ofNat x.toNat] Tryd.underlying53 Tryd.underlying5 Tryd.underlying9 (fun j hj => by
    have : j = 0 := by simp at hj; exact hj
    subst this
    rw [List.getElem_cons_zero, byte_int x h0 h1]
    have := hb.cell 0
    simpa [Addr.add] using this)
  exact h
theorem wrap_u8 (x : Int) : 0 ≤ IntKind.u8.wrap x ∧ IntKind.u8.wrap x < 256 := by rw [IntKind.wrap_u8]; omega

set_option maxRecDepth 100000 in
set_option maxHeartbeats 4000000 in
theorem l1Spoil_any (cb : Nat) (A : Option Addr) (n c : Nat) (s : ByteArray) (w : World) (hc : Cur w cb A n c) (hs : s.size ≤ 100) :
    Calls Tryd.prog 81 #[.pointer (some ⟨cb, 0, none⟩), .string s] w (Drew cb A n c (IsText 300) w) := by
  have HC := Lib.hid hc
  have hlt := hc.lt
  clear hc
  by_cases h0 : s.size = 0
  · have h0i : (s.size : Int) = 0 := by omega
    go_enter Tryd.func81, Tryd.ntmps81
    go_wp2_with fail
    refine (l1Text_any cb A n c 3 _ HC.out (by decide)).mono ?_
    rintro e w1 ⟨v, rfl, ⟨t, rfl, ht⟩, hg, hu⟩
    have HG := Lib.hid hg
    have HU := Lib.hid hu
    clear hg hu
    go_wp2_with fail
    go_ret
    exact ⟨_, rfl, ⟨_, rfl, by omega⟩, HG.out, HU.out⟩
  have h0i : ¬ (s.size : Int) = 0 := by omega
  have h0b : ((s.size : Int) == 0) = false := by simpa using h0i
  have hsi : (0 : Int) < s.size := by omega
  go_enter Tryd.func81, Tryd.ntmps81
  go_wp2_with fail
  refine (l1Below_any cb A n c s.size _ HC.out (by omega)).mono ?_
  rw [if_pos hsi]
  rintro e w1 ⟨v, rfl, ⟨k, rfl, hk0, hk1⟩, hg, hu⟩
  have HU1 := Lib.hid hu
  have G1 := Lib.hid hg
  clear hg hu
  go_wp2_with fail
  refine (l1Below_any cb A n c 4 _ HU1.out (by omega)).mono ?_
  rintro e w2 ⟨v, rfl, ⟨x, rfl, hx0, hx1⟩, hg, hu⟩
  simp at hx1
  have HU2 := Lib.hid hu
  have G2 := Lib.hid (G1.out.trans hg)
  clear hg hu G1 HU1 HC
  obtain ⟨k, rfl⟩ := Int.eq_ofNat_of_zero_le hk0
  have hks : k < s.size := by omega
  have hki : (k : Int) ≤ s.size := by omega
  have hki1 : (k : Int) + 1 ≤ s.size := by omega
  have hk1i : (0 : Int) ≤ (k : Int) + 1 := by omega
  have hkl : (k : Int) < s.size := by omega
  have HSS := Lib.hid hs
  have hz2 := HU2.out.lt
  rcases (by omega : x = 0 ∨ x = 1 ∨ x = 2 ∨ x = 3) with rfl | rfl | rfl | rfl
  · go_upto_region 6 with fail
    refine wp_region_core2 [0, 1, 2, 3, 4, 5, 6, 7] (fun wx => Chg cb (cb + 1) w2 wx ∧ Cur wx cb A n c) (fun j wa wb => match j with | _ => Below wa.heap.size wa wb) (fun i b w => match i with
      | 0 => b.tmps.getD 19 undef = .string s
      | 1 => b.tmps.getD 20 undef = .int .i64 (k : Int)
      | 2 => ∃ t : ByteArray, b.tmps.getD 21 undef = .string t ∧ t.size ≤ 100
      | 3 => b.tmps.getD 22 undef = .string s
      | 4 => b.tmps.getD 23 undef = .int .i64 (k : Int)
      | 5 => b.tmps.getD 24 undef = .int .i64 ((k : Int) + 1)
      | 6 => ∃ t : ByteArray, b.tmps.getD 25 undef = .string t ∧ t.size ≤ 100
      | 7 => ∃ t : ByteArray, b.tmps.getD 26 undef = .string t ∧ t.size ≤ 200
      | _ => True) (by kernel_rfl) (by kernel_rfl) (⟨(Chg.refl _ _ _).drew, HU2.out.drew⟩) ?_ ?_ ?_
    · intro b wa wb i j oj v hi hj hij hoj hdep hE h
      simp only [List.mem_cons, List.not_mem_nil, or_false] at hi hj
      rcases hj with rfl | rfl | rfl | rfl | rfl | rfl | rfl | rfl
      all_goals obtain rfl := Option.some.inj hoj
      · rcases hi with rfl | rfl | rfl | rfl | rfl | rfl | rfl | rfl
        all_goals first | exact absurd rfl hij | exact trivial | (simp only at hE h ⊢; (first | exact getkS h (by decide) | (obtain ⟨t1, e, h⟩ := h; exact ⟨t1, getkS e (by decide), h⟩) | (obtain ⟨t1, e⟩ := h; exact ⟨t1, getkS e (by decide)⟩) | (obtain ⟨q1, x1, e, h1, h2, h3, h4⟩ := h; exact ⟨q1, x1, getkS e (by decide), h1.below hE h1.lt, h2, h3, h4⟩))) | exact absurd rfl (hdep _ rfl ⟨0, .data⟩ (by simp) rfl)
      · rcases hi with rfl | rfl | rfl | rfl | rfl | rfl | rfl | rfl
        all_goals first | exact absurd rfl hij | exact trivial | (simp only at hE h ⊢; (first | exact getkS h (by decide) | (obtain ⟨t1, e, h⟩ := h; exact ⟨t1, getkS e (by decide), h⟩) | (obtain ⟨t1, e⟩ := h; exact ⟨t1, getkS e (by decide)⟩) | (obtain ⟨q1, x1, e, h1, h2, h3, h4⟩ := h; exact ⟨q1, x1, getkS e (by decide), h1.below hE h1.lt, h2, h3, h4⟩))) | exact absurd rfl (hdep _ rfl ⟨1, .data⟩ (by simp) rfl)
      · rcases hi with rfl | rfl | rfl | rfl | rfl | rfl | rfl | rfl
        all_goals first | exact absurd rfl hij | exact trivial | (simp only at hE h ⊢; (first | exact getkS h (by decide) | (obtain ⟨t1, e, h⟩ := h; exact ⟨t1, getkS e (by decide), h⟩) | (obtain ⟨t1, e⟩ := h; exact ⟨t1, getkS e (by decide)⟩) | (obtain ⟨q1, x1, e, h1, h2, h3, h4⟩ := h; exact ⟨q1, x1, getkS e (by decide), h1.below hE h1.lt, h2, h3, h4⟩))) | exact absurd rfl (hdep _ rfl ⟨2, .data⟩ (by simp) rfl)
      · rcases hi with rfl | rfl | rfl | rfl | rfl | rfl | rfl | rfl
        all_goals first | exact absurd rfl hij | exact trivial | (simp only at hE h ⊢; (first | exact getkS h (by decide) | (obtain ⟨t1, e, h⟩ := h; exact ⟨t1, getkS e (by decide), h⟩) | (obtain ⟨t1, e⟩ := h; exact ⟨t1, getkS e (by decide)⟩) | (obtain ⟨q1, x1, e, h1, h2, h3, h4⟩ := h; exact ⟨q1, x1, getkS e (by decide), h1.below hE h1.lt, h2, h3, h4⟩))) | exact absurd rfl (hdep _ rfl ⟨3, .data⟩ (by simp) rfl)
      · rcases hi with rfl | rfl | rfl | rfl | rfl | rfl | rfl | rfl
        all_goals first | exact absurd rfl hij | exact trivial | (simp only at hE h ⊢; (first | exact getkS h (by decide) | (obtain ⟨t1, e, h⟩ := h; exact ⟨t1, getkS e (by decide), h⟩) | (obtain ⟨t1, e⟩ := h; exact ⟨t1, getkS e (by decide)⟩) | (obtain ⟨q1, x1, e, h1, h2, h3, h4⟩ := h; exact ⟨q1, x1, getkS e (by decide), h1.below hE h1.lt, h2, h3, h4⟩))) | exact absurd rfl (hdep _ rfl ⟨4, .data⟩ (by simp) rfl)
      · rcases hi with rfl | rfl | rfl | rfl | rfl | rfl | rfl | rfl
        all_goals first | exact absurd rfl hij | exact trivial | (simp only at hE h ⊢; (first | exact getkS h (by decide) | (obtain ⟨t1, e, h⟩ := h; exact ⟨t1, getkS e (by decide), h⟩) | (obtain ⟨t1, e⟩ := h; exact ⟨t1, getkS e (by decide)⟩) | (obtain ⟨q1, x1, e, h1, h2, h3, h4⟩ := h; exact ⟨q1, x1, getkS e (by decide), h1.below hE h1.lt, h2, h3, h4⟩))) | exact absurd rfl (hdep _ rfl ⟨5, .data⟩ (by simp) rfl)
      · rcases hi with rfl | rfl | rfl | rfl | rfl | rfl | rfl | rfl
        all_goals first | exact absurd rfl hij | exact trivial | (simp only at hE h ⊢; (first | exact getkS h (by decide) | (obtain ⟨t1, e, h⟩ := h; exact ⟨t1, getkS e (by decide), h⟩) | (obtain ⟨t1, e⟩ := h; exact ⟨t1, getkS e (by decide)⟩) | (obtain ⟨q1, x1, e, h1, h2, h3, h4⟩ := h; exact ⟨q1, x1, getkS e (by decide), h1.below hE h1.lt, h2, h3, h4⟩))) | exact absurd rfl (hdep _ rfl ⟨6, .data⟩ (by simp) rfl)
      · rcases hi with rfl | rfl | rfl | rfl | rfl | rfl | rfl | rfl
        all_goals first | exact absurd rfl hij | exact trivial | (simp only at hE h ⊢; (first | exact getkS h (by decide) | (obtain ⟨t1, e, h⟩ := h; exact ⟨t1, getkS e (by decide), h⟩) | (obtain ⟨t1, e⟩ := h; exact ⟨t1, getkS e (by decide)⟩) | (obtain ⟨q1, x1, e, h1, h2, h3, h4⟩ := h; exact ⟨q1, x1, getkS e (by decide), h1.below hE h1.lt, h2, h3, h4⟩))) | exact absurd rfl (hdep _ rfl ⟨7, .data⟩ (by simp) rfl)
    · intro j o hj ho a' w' hC hsame hdep
      simp only [List.mem_cons, List.not_mem_nil, or_false] at hj
      rcases hj with rfl | rfl | rfl | rfl | rfl | rfl | rfl | rfl
      all_goals obtain rfl := Option.some.inj ho
      · have hs : a'.tmps.getD 1 undef = .string s := hsame 1 (by rfl)
        refine wp_val (w2 := w') (.string s) (fun K hK => ?_) ⟨_, rfl, hC, Below.refl _ _, fun b hb hb2 => hb 19 rfl⟩
        clear hsame hdep
        unfold Oper.wp
        simp [execOp, Act.eval, go_sem, hs]
        exact hK
      · have hs : a'.tmps.getD 5 undef = .int .i64 (k : Int) := hsame 5 (by rfl)
        refine wp_val (w2 := w') (.int .i64 (k : Int)) (fun K hK => ?_) ⟨_, rfl, hC, Below.refl _ _, fun b hb hb2 => hb 20 rfl⟩
        clear hsame hdep
        unfold Oper.wp
        simp [execOp, Act.eval, go_sem, hs]
        exact hK
      · have e1 : a'.tmps.getD 19 undef = .string s := hdep ⟨0, .data⟩ (by simp) rfl
        have e2 : a'.tmps.getD 20 undef = .int .i64 (k : Int) := hdep ⟨1, .data⟩ (by simp) rfl
        refine wp_call (fun u wq => (∃ t : ByteArray, u = .string t ∧ t.size ≤ 100) ∧ wq = w') (fun K hK => ?_) ?_
        · clear hsame hdep
          unfold Oper.wp
          simp [execOp, Act.eval, go_sem, e1, e2, hki]
          refine hK _ _ ⟨⟨_, rfl, ?_⟩, rfl⟩
          have := HSS.out; rw [ByteArray.size_extract]; omega
        · rintro u w3' ⟨⟨t, rfl, ht⟩, rfl⟩
          exact ⟨_, rfl, hC, Below.refl _ _, fun b hb _ => ⟨t, hb 21 rfl, ht⟩⟩
      · have hs : a'.tmps.getD 1 undef = .string s := hsame 1 (by rfl)
        refine wp_val (w2 := w') (.string s) (fun K hK => ?_) ⟨_, rfl, hC, Below.refl _ _, fun b hb hb2 => hb 22 rfl⟩
        clear hsame hdep
        unfold Oper.wp
        simp [execOp, Act.eval, go_sem, hs]
        exact hK
      · have hs : a'.tmps.getD 5 undef = .int .i64 (k : Int) := hsame 5 (by rfl)
        refine wp_val (w2 := w') (.int .i64 (k : Int)) (fun K hK => ?_) ⟨_, rfl, hC, Below.refl _ _, fun b hb hb2 => hb 23 rfl⟩
        clear hsame hdep
        unfold Oper.wp
        simp [execOp, Act.eval, go_sem, hs]
        exact hK
      · have e1 : a'.tmps.getD 23 undef = .int .i64 (k : Int) := hdep ⟨4, .data⟩ (by simp) rfl
        have hw : IntKind.i64.wrap ((k : Int) + 1) = (k : Int) + 1 := low_i64 _ (by omega) (by have := HSS.out; omega)
        refine wp_val (w2 := w') (.int .i64 ((k : Int) + 1)) (fun K hK => ?_) ⟨_, rfl, hC, Below.refl _ _, fun b hb hb2 => hb 24 rfl⟩
        clear hsame hdep
        unfold Oper.wp
        simp [execOp, Act.eval, go_sem, e1, hw]
        exact hK
      · have e1 : a'.tmps.getD 22 undef = .string s := hdep ⟨3, .data⟩ (by simp) rfl
        have e2 : a'.tmps.getD 24 undef = .int .i64 ((k : Int) + 1) := hdep ⟨5, .data⟩ (by simp) rfl
        refine wp_call (fun u wq => (∃ t : ByteArray, u = .string t ∧ t.size ≤ 100) ∧ wq = w') (fun K hK => ?_) ?_
        · clear hsame hdep
          unfold Oper.wp
          simp [execOp, Act.eval, go_sem, e1, e2, hki1, hk1i]
          refine hK _ _ ⟨⟨_, rfl, ?_⟩, rfl⟩
          have := HSS.out; rw [ByteArray.size_extract]; omega
        · rintro u w3' ⟨⟨t, rfl, ht⟩, rfl⟩
          exact ⟨_, rfl, hC, Below.refl _ _, fun b hb _ => ⟨t, hb 25 rfl, ht⟩⟩
      · obtain ⟨t0, e0, ht0⟩ := hdep ⟨2, .data⟩ (by simp) rfl
        obtain ⟨t1, e1, ht1⟩ := hdep ⟨6, .data⟩ (by simp) rfl
        have hcat : ¬ 9223372036854775807 < t0.size + t1.size := by omega
        refine wp_call (fun u wq => (∃ t : ByteArray, u = .string t ∧ t.size ≤ 200) ∧ wq = w') (fun K hK => ?_) ?_
        · clear hsame hdep
          unfold Oper.wp
          simp [execOp, Act.eval, go_sem, e0, e1, hcat]
          refine hK _ _ ⟨⟨_, rfl, ?_⟩, rfl⟩
          rw [ByteArray.size_append]; omega
        · rintro u w3' ⟨⟨t, rfl, ht⟩, rfl⟩
          exact ⟨_, rfl, hC, Below.refl _ _, fun b hb _ => ⟨t, hb 26 rfl, ht⟩⟩
    · intro a' w' hC ha hP
      obtain ⟨t, t4, ht⟩ := hP 7 (by simp)
      clear hP
      simp only [coreOps, List.filterMap_cons, List.filterMap_nil, List.getElem?_cons_zero, List.getElem?_cons_succ, fillA, slotOf, Act.put, t4] at ha
      generalize a'.tmps.getD 19 undef = u19 at ha
      generalize a'.tmps.getD 20 undef = u20 at ha
      generalize a'.tmps.getD 21 undef = u21 at ha
      generalize a'.tmps.getD 22 undef = u22 at ha
      generalize a'.tmps.getD 23 undef = u23 at ha
      generalize a'.tmps.getD 24 undef = u24 at ha
      generalize a'.tmps.getD 25 undef = u25 at ha
      subst ha
      clear t4
      have HCC := Lib.hid hC
      clear hC
      show wpAny _ _ _ _ 1 _ _ _
      refine wpAny_ready (rs := [8]) (by kernel_rfl) (by simp) ?_
      refine AllReady.cons rfl (fun K hK => ?_) AllReady.nil
      go_simp
      refine hK _ _ ?_
      clear hK K
      refine wpAny_done (by kernel_rfl) ?_ _
      go_wp2_with fail
      go_ret
      exact ⟨_, rfl, ⟨t, rfl, by omega⟩, G2.out.trans HCC.out.1, HCC.out.2⟩
  · go_upto_region 8 with fail
    refine wp_region_core2 [0, 1, 2, 3, 4, 5, 6, 7, 8, 9, 10, 11, 12] (fun wx => Chg cb (cb + 1) w2 wx ∧ Cur wx cb A n c) (fun j wa wb => match j with | 4 => Chg cb (cb + 1) wa wb | _ => Below wa.heap.size wa wb) (fun i b w => match i with
      | 0 => b.tmps.getD 29 undef = .string s
      | 1 => b.tmps.getD 30 undef = .int .i64 (k : Int)
      | 2 => ∃ t : ByteArray, b.tmps.getD 31 undef = .string t ∧ t.size ≤ 100
      | 3 => b.tmps.getD 32 undef = .pointer (some ⟨cb, 0, none⟩)
      | 4 => ∃ x : Int, b.tmps.getD 33 undef = .int .i64 x
      | 5 => ∃ x : Int, b.tmps.getD 34 undef = .int .u8 x ∧ 0 ≤ x ∧ x < 256
      | 6 => ∃ (q : Nat) (x : Int), b.tmps.getD 35 undef = .slice (some ⟨q, 0, none⟩) 1 1 ∧ Blk w q 5 #[.int .u8 x] ∧ 0 ≤ x ∧ x < 256 ∧ cb < q
      | 7 => ∃ t : ByteArray, b.tmps.getD 36 undef = .string t ∧ t.size ≤ 1
      | 8 => ∃ t : ByteArray, b.tmps.getD 37 undef = .string t ∧ t.size ≤ 101
      | 9 => b.tmps.getD 38 undef = .string s
      | 10 => b.tmps.getD 39 undef = .int .i64 (k : Int)
      | 11 => ∃ t : ByteArray, b.tmps.getD 40 undef = .string t ∧ t.size ≤ 100
      | 12 => ∃ t : ByteArray, b.tmps.getD 41 undef = .string t ∧ t.size ≤ 201
      | _ => True) (by kernel_rfl) (by kernel_rfl) (⟨(Chg.refl _ _ _).drew, HU2.out.drew⟩) ?_ ?_ ?_
    · intro b wa wb i j oj v hi hj hij hoj hdep hE h
      simp only [List.mem_cons, List.not_mem_nil, or_false] at hi hj
      rcases hj with rfl | rfl | rfl | rfl | rfl | rfl | rfl | rfl | rfl | rfl | rfl | rfl | rfl
      all_goals obtain rfl := Option.some.inj hoj
      · rcases hi with rfl | rfl | rfl | rfl | rfl | rfl | rfl | rfl | rfl | rfl | rfl | rfl | rfl
        all_goals first | exact absurd rfl hij | exact trivial | (simp only at hE h ⊢; (first | exact getkS h (by decide) | (obtain ⟨t1, e, h⟩ := h; exact ⟨t1, getkS e (by decide), h⟩) | (obtain ⟨t1, e⟩ := h; exact ⟨t1, getkS e (by decide)⟩) | (obtain ⟨q1, x1, e, h1, h2, h3, h4⟩ := h; exact ⟨q1, x1, getkS e (by decide), h1.below hE h1.lt, h2, h3, h4⟩))) | exact absurd rfl (hdep _ rfl ⟨0, .data⟩ (by simp) rfl)
      · rcases hi with rfl | rfl | rfl | rfl | rfl | rfl | rfl | rfl | rfl | rfl | rfl | rfl | rfl
        all_goals first | exact absurd rfl hij | exact trivial | (simp only at hE h ⊢; (first | exact getkS h (by decide) | (obtain ⟨t1, e, h⟩ := h; exact ⟨t1, getkS e (by decide), h⟩) | (obtain ⟨t1, e⟩ := h; exact ⟨t1, getkS e (by decide)⟩) | (obtain ⟨q1, x1, e, h1, h2, h3, h4⟩ := h; exact ⟨q1, x1, getkS e (by decide), h1.below hE h1.lt, h2, h3, h4⟩))) | exact absurd rfl (hdep _ rfl ⟨1, .data⟩ (by simp) rfl)
      · rcases hi with rfl | rfl | rfl | rfl | rfl | rfl | rfl | rfl | rfl | rfl | rfl | rfl | rfl
        all_goals first | exact absurd rfl hij | exact trivial | (simp only at hE h ⊢; (first | exact getkS h (by decide) | (obtain ⟨t1, e, h⟩ := h; exact ⟨t1, getkS e (by decide), h⟩) | (obtain ⟨t1, e⟩ := h; exact ⟨t1, getkS e (by decide)⟩) | (obtain ⟨q1, x1, e, h1, h2, h3, h4⟩ := h; exact ⟨q1, x1, getkS e (by decide), h1.below hE h1.lt, h2, h3, h4⟩))) | exact absurd rfl (hdep _ rfl ⟨2, .data⟩ (by simp) rfl)
      · rcases hi with rfl | rfl | rfl | rfl | rfl | rfl | rfl | rfl | rfl | rfl | rfl | rfl | rfl
        all_goals first | exact absurd rfl hij | exact trivial | (simp only at hE h ⊢; (first | exact getkS h (by decide) | (obtain ⟨t1, e, h⟩ := h; exact ⟨t1, getkS e (by decide), h⟩) | (obtain ⟨t1, e⟩ := h; exact ⟨t1, getkS e (by decide)⟩) | (obtain ⟨q1, x1, e, h1, h2, h3, h4⟩ := h; exact ⟨q1, x1, getkS e (by decide), h1.below hE h1.lt, h2, h3, h4⟩))) | exact absurd rfl (hdep _ rfl ⟨3, .data⟩ (by simp) rfl)
      · rcases hi with rfl | rfl | rfl | rfl | rfl | rfl | rfl | rfl | rfl | rfl | rfl | rfl | rfl
        all_goals first | exact absurd rfl hij | exact trivial | (simp only at hE h ⊢; (first | exact getkS h (by decide) | (obtain ⟨t1, e, h⟩ := h; exact ⟨t1, getkS e (by decide), h⟩) | (obtain ⟨t1, e⟩ := h; exact ⟨t1, getkS e (by decide)⟩) | (obtain ⟨q1, x1, e, h1, h2, h3, h4⟩ := h; exact ⟨q1, x1, getkS e (by decide), (hE.block q1 h1.lt (.inr (by omega))).trans h1, h2, h3, h4⟩))) | exact absurd rfl (hdep _ rfl ⟨4, .data⟩ (by simp) rfl)
      · rcases hi with rfl | rfl | rfl | rfl | rfl | rfl | rfl | rfl | rfl | rfl | rfl | rfl | rfl
        all_goals first | exact absurd rfl hij | exact trivial | (simp only at hE h ⊢; (first | exact getkS h (by decide) | (obtain ⟨t1, e, h⟩ := h; exact ⟨t1, getkS e (by decide), h⟩) | (obtain ⟨t1, e⟩ := h; exact ⟨t1, getkS e (by decide)⟩) | (obtain ⟨q1, x1, e, h1, h2, h3, h4⟩ := h; exact ⟨q1, x1, getkS e (by decide), h1.below hE h1.lt, h2, h3, h4⟩))) | exact absurd rfl (hdep _ rfl ⟨5, .data⟩ (by simp) rfl)
      · rcases hi with rfl | rfl | rfl | rfl | rfl | rfl | rfl | rfl | rfl | rfl | rfl | rfl | rfl
        all_goals first | exact absurd rfl hij | exact trivial | (simp only at hE h ⊢; (first | exact getkS h (by decide) | (obtain ⟨t1, e, h⟩ := h; exact ⟨t1, getkS e (by decide), h⟩) | (obtain ⟨t1, e⟩ := h; exact ⟨t1, getkS e (by decide)⟩) | (obtain ⟨q1, x1, e, h1, h2, h3, h4⟩ := h; exact ⟨q1, x1, getkS e (by decide), h1.below hE h1.lt, h2, h3, h4⟩))) | exact absurd rfl (hdep _ rfl ⟨6, .data⟩ (by simp) rfl)
      · rcases hi with rfl | rfl | rfl | rfl | rfl | rfl | rfl | rfl | rfl | rfl | rfl | rfl | rfl
        all_goals first | exact absurd rfl hij | exact trivial | (simp only at hE h ⊢; (first | exact getkS h (by decide) | (obtain ⟨t1, e, h⟩ := h; exact ⟨t1, getkS e (by decide), h⟩) | (obtain ⟨t1, e⟩ := h; exact ⟨t1, getkS e (by decide)⟩) | (obtain ⟨q1, x1, e, h1, h2, h3, h4⟩ := h; exact ⟨q1, x1, getkS e (by decide), h1.below hE h1.lt, h2, h3, h4⟩))) | exact absurd rfl (hdep _ rfl ⟨7, .data⟩ (by simp) rfl)
      · rcases hi with rfl | rfl | rfl | rfl | rfl | rfl | rfl | rfl | rfl | rfl | rfl | rfl | rfl
        all_goals first | exact absurd rfl hij | exact trivial | (simp only at hE h ⊢; (first | exact getkS h (by decide) | (obtain ⟨t1, e, h⟩ := h; exact ⟨t1, getkS e (by decide), h⟩) | (obtain ⟨t1, e⟩ := h; exact ⟨t1, getkS e (by decide)⟩) | (obtain ⟨q1, x1, e, h1, h2, h3, h4⟩ := h; exact ⟨q1, x1, getkS e (by decide), h1.below hE h1.lt, h2, h3, h4⟩))) | exact absurd rfl (hdep _ rfl ⟨8, .data⟩ (by simp) rfl)
      · rcases hi with rfl | rfl | rfl | rfl | rfl | rfl | rfl | rfl | rfl | rfl | rfl | rfl | rfl
        all_goals first | exact absurd rfl hij | exact trivial | (simp only at hE h ⊢; (first | exact getkS h (by decide) | (obtain ⟨t1, e, h⟩ := h; exact ⟨t1, getkS e (by decide), h⟩) | (obtain ⟨t1, e⟩ := h; exact ⟨t1, getkS e (by decide)⟩) | (obtain ⟨q1, x1, e, h1, h2, h3, h4⟩ := h; exact ⟨q1, x1, getkS e (by decide), h1.below hE h1.lt, h2, h3, h4⟩))) | exact absurd rfl (hdep _ rfl ⟨9, .data⟩ (by simp) rfl)
      · rcases hi with rfl | rfl | rfl | rfl | rfl | rfl | rfl | rfl | rfl | rfl | rfl | rfl | rfl
        all_goals first | exact absurd rfl hij | exact trivial | (simp only at hE h ⊢; (first | exact getkS h (by decide) | (obtain ⟨t1, e, h⟩ := h; exact ⟨t1, getkS e (by decide), h⟩) | (obtain ⟨t1, e⟩ := h; exact ⟨t1, getkS e (by decide)⟩) | (obtain ⟨q1, x1, e, h1, h2, h3, h4⟩ := h; exact ⟨q1, x1, getkS e (by decide), h1.below hE h1.lt, h2, h3, h4⟩))) | exact absurd rfl (hdep _ rfl ⟨10, .data⟩ (by simp) rfl)
      · rcases hi with rfl | rfl | rfl | rfl | rfl | rfl | rfl | rfl | rfl | rfl | rfl | rfl | rfl
        all_goals first | exact absurd rfl hij | exact trivial | (simp only at hE h ⊢; (first | exact getkS h (by decide) | (obtain ⟨t1, e, h⟩ := h; exact ⟨t1, getkS e (by decide), h⟩) | (obtain ⟨t1, e⟩ := h; exact ⟨t1, getkS e (by decide)⟩) | (obtain ⟨q1, x1, e, h1, h2, h3, h4⟩ := h; exact ⟨q1, x1, getkS e (by decide), h1.below hE h1.lt, h2, h3, h4⟩))) | exact absurd rfl (hdep _ rfl ⟨11, .data⟩ (by simp) rfl)
      · rcases hi with rfl | rfl | rfl | rfl | rfl | rfl | rfl | rfl | rfl | rfl | rfl | rfl | rfl
        all_goals first | exact absurd rfl hij | exact trivial | (simp only at hE h ⊢; (first | exact getkS h (by decide) | (obtain ⟨t1, e, h⟩ := h; exact ⟨t1, getkS e (by decide), h⟩) | (obtain ⟨t1, e⟩ := h; exact ⟨t1, getkS e (by decide)⟩) | (obtain ⟨q1, x1, e, h1, h2, h3, h4⟩ := h; exact ⟨q1, x1, getkS e (by decide), h1.below hE h1.lt, h2, h3, h4⟩))) | exact absurd rfl (hdep _ rfl ⟨12, .data⟩ (by simp) rfl)
    · intro j o hj ho a' w' hC hsame hdep
      simp only [List.mem_cons, List.not_mem_nil, or_false] at hj
      rcases hj with rfl | rfl | rfl | rfl | rfl | rfl | rfl | rfl | rfl | rfl | rfl | rfl | rfl
      all_goals obtain rfl := Option.some.inj ho
      · have hs : a'.tmps.getD 1 undef = .string s := hsame 1 (by rfl)
        refine wp_val (w2 := w') (.string s) (fun K hK => ?_) ⟨_, rfl, hC, Below.refl _ _, fun b hb hb2 => hb 29 rfl⟩
        clear hsame hdep
        unfold Oper.wp
        simp [execOp, Act.eval, go_sem, hs]
        exact hK
      · have hs : a'.tmps.getD 5 undef = .int .i64 (k : Int) := hsame 5 (by rfl)
        refine wp_val (w2 := w') (.int .i64 (k : Int)) (fun K hK => ?_) ⟨_, rfl, hC, Below.refl _ _, fun b hb hb2 => hb 30 rfl⟩
        clear hsame hdep
        unfold Oper.wp
        simp [execOp, Act.eval, go_sem, hs]
        exact hK
      · have e1 : a'.tmps.getD 29 undef = .string s := hdep ⟨0, .data⟩ (by simp) rfl
        have e2 : a'.tmps.getD 30 undef = .int .i64 (k : Int) := hdep ⟨1, .data⟩ (by simp) rfl
        refine wp_call (fun u wq => (∃ t : ByteArray, u = .string t ∧ t.size ≤ 100) ∧ wq = w') (fun K hK => ?_) ?_
        · clear hsame hdep
          unfold Oper.wp
          simp [execOp, Act.eval, go_sem, e1, e2, hki]
          refine hK _ _ ⟨⟨_, rfl, ?_⟩, rfl⟩
          have := HSS.out; rw [ByteArray.size_extract]; omega
        · rintro u w3' ⟨⟨t, rfl, ht⟩, rfl⟩
          exact ⟨_, rfl, hC, Below.refl _ _, fun b hb _ => ⟨t, hb 31 rfl, ht⟩⟩
      · have hs : a'.tmps.getD 0 undef = .pointer (some ⟨cb, 0, none⟩) := hsame 0 (by rfl)
        refine wp_val (w2 := w') (.pointer (some ⟨cb, 0, none⟩)) (fun K hK => ?_) ⟨_, rfl, hC, Below.refl _ _, fun b hb hb2 => hb 32 rfl⟩
        clear hsame hdep
        unfold Oper.wp
        simp [execOp, Act.eval, go_sem, hs]
        exact hK
      · have e1 : a'.tmps.getD 32 undef = .pointer (some ⟨cb, 0, none⟩) := hdep ⟨3, .data⟩ (by simp) rfl
        refine wp_call (fun u wq => (∃ x : Int, u = .int .i64 x) ∧ Chg cb (cb + 1) w' wq ∧ Cur wq cb A n c) (fun K hK => ?_) ?_
        · clear hsame hdep
          unfold Oper.wp
          simp [Act.eval, e1, go_sem]
          refine (l1Byte_any cb A n c _ hC.2).mono ?_
          rintro e w3 ⟨v, rfl, ⟨y, rfl, _, _⟩, hg, hu⟩
          exact hK _ _ ⟨⟨y, rfl⟩, hg, hu⟩
        · rintro u w3 ⟨⟨y, rfl⟩, hg, hu⟩
          exact ⟨_, rfl, ⟨hC.1.trans hg, hu⟩, hg, fun b hb _ => ⟨y, hb 33 rfl⟩⟩
      · obtain ⟨y, e1⟩ := hdep ⟨4, .data⟩ (by simp) rfl
        have hw := wrap_u8 y
        refine wp_val (w2 := w') (.int .u8 (IntKind.u8.wrap y)) (fun K hK => ?_) ⟨_, rfl, hC, Below.refl _ _, fun b hb hb2 => ⟨_, hb 34 rfl, hw⟩⟩
        clear hsame hdep
        unfold Oper.wp
        simp [execOp, Act.eval, go_sem, e1]
        exact hK
      · obtain ⟨x, e1, hx⟩ := hdep ⟨5, .data⟩ (by simp) rfl
        have e1q : (a'.tmps[34]?).getD undef = .int .u8 x := by simpa using e1
        have hnew := heap_alloc_new w' (.cells #[.int .u8 x] 5)
        have hcq : cb < w'.heap.size := hC.2.lt
        refine wp_val (w2 := w'.alloc (.cells #[.int .u8 x] 5)) (.slice (some ⟨w'.heap.size, 0, none⟩) 1 1) (fun K hK => ?_) ⟨_, rfl, ⟨hC.1.alloc _, hC.2.alloc _⟩, (Below.refl _ _).alloc (Nat.le_refl _) _, fun b hb _ => ⟨w'.heap.size, x, hb 35 rfl, show Blk _ _ _ _ from hnew, hx.1, hx.2, hcq⟩⟩
        clear hsame hdep hnew
        unfold Oper.wp
        simp [execOp, Act.eval, go_sem, e1q]
        exact hK
      · obtain ⟨q, x, e1, hb1, hx0, hx1, hcq⟩ := hdep ⟨6, .data⟩ (by simp) rfl
        have kc := conv_one hb1 hx0 hx1
        refine wp_call (fun u wq => (∃ t : ByteArray, u = .string t ∧ t.size ≤ 1) ∧ wq = w') (fun K hK => ?_) ?_
        · clear hsame hdep
          unfold Oper.wp
          simp [execOp, Act.eval, go_sem, e1, kc]
          refine hK _ _ ⟨⟨_, rfl, ?_⟩, rfl⟩
          exact Nat.le_refl 1
        · rintro u w3' ⟨⟨t, rfl, ht⟩, rfl⟩
          exact ⟨_, rfl, hC, Below.refl _ _, fun b hb _ => ⟨t, hb 36 rfl, ht⟩⟩
      · obtain ⟨t0, e0, ht0⟩ := hdep ⟨2, .data⟩ (by simp) rfl
        obtain ⟨t1, e1, ht1⟩ := hdep ⟨7, .data⟩ (by simp) rfl
        have hcat : ¬ 9223372036854775807 < t0.size + t1.size := by omega
        refine wp_call (fun u wq => (∃ t : ByteArray, u = .string t ∧ t.size ≤ 101) ∧ wq = w') (fun K hK => ?_) ?_
        · clear hsame hdep
          unfold Oper.wp
          simp [execOp, Act.eval, go_sem, e0, e1, hcat]
          refine hK _ _ ⟨⟨_, rfl, ?_⟩, rfl⟩
          rw [ByteArray.size_append]; omega
        · rintro u w3' ⟨⟨t, rfl, ht⟩, rfl⟩
          exact ⟨_, rfl, hC, Below.refl _ _, fun b hb _ => ⟨t, hb 37 rfl, ht⟩⟩
      · have hs : a'.tmps.getD 1 undef = .string s := hsame 1 (by rfl)
        refine wp_val (w2 := w') (.string s) (fun K hK => ?_) ⟨_, rfl, hC, Below.refl _ _, fun b hb hb2 => hb 38 rfl⟩
        clear hsame hdep
        unfold Oper.wp
        simp [execOp, Act.eval, go_sem, hs]
        exact hK
      · have hs : a'.tmps.getD 5 undef = .int .i64 (k : Int) := hsame 5 (by rfl)
        refine wp_val (w2 := w') (.int .i64 (k : Int)) (fun K hK => ?_) ⟨_, rfl, hC, Below.refl _ _, fun b hb hb2 => hb 39 rfl⟩
        clear hsame hdep
        unfold Oper.wp
        simp [execOp, Act.eval, go_sem, hs]
        exact hK
      · have e1 : a'.tmps.getD 38 undef = .string s := hdep ⟨9, .data⟩ (by simp) rfl
        have e2 : a'.tmps.getD 39 undef = .int .i64 (k : Int) := hdep ⟨10, .data⟩ (by simp) rfl
        refine wp_call (fun u wq => (∃ t : ByteArray, u = .string t ∧ t.size ≤ 100) ∧ wq = w') (fun K hK => ?_) ?_
        · clear hsame hdep
          unfold Oper.wp
          simp [execOp, Act.eval, go_sem, e1, e2, hki]
          refine hK _ _ ⟨⟨_, rfl, ?_⟩, rfl⟩
          have := HSS.out; rw [ByteArray.size_extract]; omega
        · rintro u w3' ⟨⟨t, rfl, ht⟩, rfl⟩
          exact ⟨_, rfl, hC, Below.refl _ _, fun b hb _ => ⟨t, hb 40 rfl, ht⟩⟩
      · obtain ⟨t0, e0, ht0⟩ := hdep ⟨8, .data⟩ (by simp) rfl
        obtain ⟨t1, e1, ht1⟩ := hdep ⟨11, .data⟩ (by simp) rfl
        have hcat : ¬ 9223372036854775807 < t0.size + t1.size := by omega
        refine wp_call (fun u wq => (∃ t : ByteArray, u = .string t ∧ t.size ≤ 201) ∧ wq = w') (fun K hK => ?_) ?_
        · clear hsame hdep
          unfold Oper.wp
          simp [execOp, Act.eval, go_sem, e0, e1, hcat]
          refine hK _ _ ⟨⟨_, rfl, ?_⟩, rfl⟩
          rw [ByteArray.size_append]; omega
        · rintro u w3' ⟨⟨t, rfl, ht⟩, rfl⟩
          exact ⟨_, rfl, hC, Below.refl _ _, fun b hb _ => ⟨t, hb 41 rfl, ht⟩⟩
    · intro a' w' hC ha hP
      obtain ⟨t, t4, ht⟩ := hP 12 (by simp)
      clear hP
      simp only [coreOps, List.filterMap_cons, List.filterMap_nil, List.getElem?_cons_zero, List.getElem?_cons_succ, fillA, slotOf, Act.put, t4] at ha
      generalize a'.tmps.getD 29 undef = u29 at ha
      generalize a'.tmps.getD 30 undef = u30 at ha
      generalize a'.tmps.getD 31 undef = u31 at ha
      generalize a'.tmps.getD 32 undef = u32 at ha
      generalize a'.tmps.getD 33 undef = u33 at ha
      generalize a'.tmps.getD 34 undef = u34 at ha
      generalize a'.tmps.getD 35 undef = u35 at ha
      generalize a'.tmps.getD 36 undef = u36 at ha
      generalize a'.tmps.getD 37 undef = u37 at ha
      generalize a'.tmps.getD 38 undef = u38 at ha
      generalize a'.tmps.getD 39 undef = u39 at ha
      generalize a'.tmps.getD 40 undef = u40 at ha
      subst ha
      clear t4
      have HCC := Lib.hid hC
      clear hC
      show wpAny _ _ _ _ 1 _ _ _
      refine wpAny_ready (rs := [13]) (by kernel_rfl) (by simp) ?_
      refine AllReady.cons rfl (fun K hK => ?_) AllReady.nil
      go_simp
      refine hK _ _ ?_
      clear hK K
      refine wpAny_done (by kernel_rfl) ?_ _
      go_wp2_with fail
      go_ret
      exact ⟨_, rfl, ⟨t, rfl, by omega⟩, G2.out.trans HCC.out.1, HCC.out.2⟩
  · go_wp2_with fail
    go_ret
    exact ⟨_, rfl, ⟨_, rfl, by have := HSS.out; simp [ByteArray.size_extract]; omega⟩, G2.out, HU2.out⟩
  · go_upto_region 11 with fail
    refine wp_region_core2 [0, 1, 2, 3, 4, 5, 6, 7, 8, 9, 10, 11, 12, 13, 14, 15, 16, 17, 18, 19] (fun wx => Chg cb (cb + 1) w2 wx ∧ Cur wx cb A n c) (fun j wa wb => match j with | 8 => Chg cb (cb + 1) wa wb | _ => Below wa.heap.size wa wb) (fun i b w => match i with
      | 0 => b.tmps.getD 47 undef = .string s
      | 1 => b.tmps.getD 48 undef = .int .i64 (k : Int)
      | 2 => ∃ t : ByteArray, b.tmps.getD 49 undef = .string t ∧ t.size ≤ 100
      | 3 => b.tmps.getD 50 undef = .string s
      | 4 => b.tmps.getD 51 undef = .int .i64 (k : Int)
      | 5 => ∃ x : Int, b.tmps.getD 52 undef = .int .u8 x
      | 6 => ∃ x : Int, b.tmps.getD 53 undef = .int .i64 x
      | 7 => b.tmps.getD 54 undef = .pointer (some ⟨cb, 0, none⟩)
      | 8 => ∃ x : Int, b.tmps.getD 55 undef = .int .i64 x
      | 9 => ∃ x : Int, b.tmps.getD 56 undef = .int .i64 x
      | 10 => ∃ x : Int, b.tmps.getD 57 undef = .int .i64 x
      | 11 => ∃ x : Int, b.tmps.getD 58 undef = .int .u8 x ∧ 0 ≤ x ∧ x < 256
      | 12 => ∃ (q : Nat) (x : Int), b.tmps.getD 59 undef = .slice (some ⟨q, 0, none⟩) 1 1 ∧ Blk w q 5 #[.int .u8 x] ∧ 0 ≤ x ∧ x < 256 ∧ cb < q
      | 13 => ∃ t : ByteArray, b.tmps.getD 60 undef = .string t ∧ t.size ≤ 1
      | 14 => ∃ t : ByteArray, b.tmps.getD 61 undef = .string t ∧ t.size ≤ 101
      | 15 => b.tmps.getD 62 undef = .string s
      | 16 => b.tmps.getD 63 undef = .int .i64 (k : Int)
      | 17 => b.tmps.getD 64 undef = .int .i64 ((k : Int) + 1)
      | 18 => ∃ t : ByteArray, b.tmps.getD 65 undef = .string t ∧ t.size ≤ 100
      | 19 => ∃ t : ByteArray, b.tmps.getD 66 undef = .string t ∧ t.size ≤ 201
      | _ => True) (by kernel_rfl) (by kernel_rfl) (⟨(Chg.refl _ _ _).drew, HU2.out.drew⟩) ?_ ?_ ?_
    · intro b wa wb i j oj v hi hj hij hoj hdep hE h
      simp only [List.mem_cons, List.not_mem_nil, or_false] at hi hj
      rcases hj with rfl | rfl | rfl | rfl | rfl | rfl | rfl | rfl | rfl | rfl | rfl | rfl | rfl | rfl | rfl | rfl | rfl | rfl | rfl | rfl
      all_goals obtain rfl := Option.some.inj hoj
      · rcases hi with rfl | rfl | rfl | rfl | rfl | rfl | rfl | rfl | rfl | rfl | rfl | rfl | rfl | rfl | rfl | rfl | rfl | rfl | rfl | rfl
        all_goals first | exact absurd rfl hij | exact trivial | (simp only at hE h ⊢; (first | exact getkS h (by decide) | (obtain ⟨t1, e, h⟩ := h; exact ⟨t1, getkS e (by decide), h⟩) | (obtain ⟨t1, e⟩ := h; exact ⟨t1, getkS e (by decide)⟩) | (obtain ⟨q1, x1, e, h1, h2, h3, h4⟩ := h; exact ⟨q1, x1, getkS e (by decide), h1.below hE h1.lt, h2, h3, h4⟩))) | exact absurd rfl (hdep _ rfl ⟨0, .data⟩ (by simp) rfl)
      · rcases hi with rfl | rfl | rfl | rfl | rfl | rfl | rfl | rfl | rfl | rfl | rfl | rfl | rfl | rfl | rfl | rfl | rfl | rfl | rfl | rfl
        all_goals first | exact absurd rfl hij | exact trivial | (simp only at hE h ⊢; (first | exact getkS h (by decide) | (obtain ⟨t1, e, h⟩ := h; exact ⟨t1, getkS e (by decide), h⟩) | (obtain ⟨t1, e⟩ := h; exact ⟨t1, getkS e (by decide)⟩) | (obtain ⟨q1, x1, e, h1, h2, h3, h4⟩ := h; exact ⟨q1, x1, getkS e (by decide), h1.below hE h1.lt, h2, h3, h4⟩))) | exact absurd rfl (hdep _ rfl ⟨1, .data⟩ (by simp) rfl)
      · rcases hi with rfl | rfl | rfl | rfl | rfl | rfl | rfl | rfl | rfl | rfl | rfl | rfl | rfl | rfl | rfl | rfl | rfl | rfl | rfl | rfl
        all_goals first | exact absurd rfl hij | exact trivial | (simp only at hE h ⊢; (first | exact getkS h (by decide) | (obtain ⟨t1, e, h⟩ := h; exact ⟨t1, getkS e (by decide), h⟩) | (obtain ⟨t1, e⟩ := h; exact ⟨t1, getkS e (by decide)⟩) | (obtain ⟨q1, x1, e, h1, h2, h3, h4⟩ := h; exact ⟨q1, x1, getkS e (by decide), h1.below hE h1.lt, h2, h3, h4⟩))) | exact absurd rfl (hdep _ rfl ⟨2, .data⟩ (by simp) rfl)
      · rcases hi with rfl | rfl | rfl | rfl | rfl | rfl | rfl | rfl | rfl | rfl | rfl | rfl | rfl | rfl | rfl | rfl | rfl | rfl | rfl | rfl
        all_goals first | exact absurd rfl hij | exact trivial | (simp only at hE h ⊢; (first | exact getkS h (by decide) | (obtain ⟨t1, e, h⟩ := h; exact ⟨t1, getkS e (by decide), h⟩) | (obtain ⟨t1, e⟩ := h; exact ⟨t1, getkS e (by decide)⟩) | (obtain ⟨q1, x1, e, h1, h2, h3, h4⟩ := h; exact ⟨q1, x1, getkS e (by decide), h1.below hE h1.lt, h2, h3, h4⟩))) | exact absurd rfl (hdep _ rfl ⟨3, .data⟩ (by simp) rfl)
      · rcases hi with rfl | rfl | rfl | rfl | rfl | rfl | rfl | rfl | rfl | rfl | rfl | rfl | rfl | rfl | rfl | rfl | rfl | rfl | rfl | rfl
        all_goals first | exact absurd rfl hij | exact trivial | (simp only at hE h ⊢; (first | exact getkS h (by decide) | (obtain ⟨t1, e, h⟩ := h; exact ⟨t1, getkS e (by decide), h⟩) | (obtain ⟨t1, e⟩ := h; exact ⟨t1, getkS e (by decide)⟩) | (obtain ⟨q1, x1, e, h1, h2, h3, h4⟩ := h; exact ⟨q1, x1, getkS e (by decide), h1.below hE h1.lt, h2, h3, h4⟩))) | exact absurd rfl (hdep _ rfl ⟨4, .data⟩ (by simp) rfl)
      · rcases hi with rfl | rfl | rfl | rfl | rfl | rfl | rfl | rfl | rfl | rfl | rfl | rfl | rfl | rfl | rfl | rfl | rfl | rfl | rfl | rfl
        all_goals first | exact absurd rfl hij | exact trivial | (simp only at hE h ⊢; (first | exact getkS h (by decide) | (obtain ⟨t1, e, h⟩ := h; exact ⟨t1, getkS e (by decide), h⟩) | (obtain ⟨t1, e⟩ := h; exact ⟨t1, getkS e (by decide)⟩) | (obtain ⟨q1, x1, e, h1, h2, h3, h4⟩ := h; exact ⟨q1, x1, getkS e (by decide), h1.below hE h1.lt, h2, h3, h4⟩))) | exact absurd rfl (hdep _ rfl ⟨5, .data⟩ (by simp) rfl)
      · rcases hi with rfl | rfl | rfl | rfl | rfl | rfl | rfl | rfl | rfl | rfl | rfl | rfl | rfl | rfl | rfl | rfl | rfl | rfl | rfl | rfl
        all_goals first | exact absurd rfl hij | exact trivial | (simp only at hE h ⊢; (first | exact getkS h (by decide) | (obtain ⟨t1, e, h⟩ := h; exact ⟨t1, getkS e (by decide), h⟩) | (obtain ⟨t1, e⟩ := h; exact ⟨t1, getkS e (by decide)⟩) | (obtain ⟨q1, x1, e, h1, h2, h3, h4⟩ := h; exact ⟨q1, x1, getkS e (by decide), h1.below hE h1.lt, h2, h3, h4⟩))) | exact absurd rfl (hdep _ rfl ⟨6, .data⟩ (by simp) rfl)
      · rcases hi with rfl | rfl | rfl | rfl | rfl | rfl | rfl | rfl | rfl | rfl | rfl | rfl | rfl | rfl | rfl | rfl | rfl | rfl | rfl | rfl
        all_goals first | exact absurd rfl hij | exact trivial | (simp only at hE h ⊢; (first | exact getkS h (by decide) | (obtain ⟨t1, e, h⟩ := h; exact ⟨t1, getkS e (by decide), h⟩) | (obtain ⟨t1, e⟩ := h; exact ⟨t1, getkS e (by decide)⟩) | (obtain ⟨q1, x1, e, h1, h2, h3, h4⟩ := h; exact ⟨q1, x1, getkS e (by decide), h1.below hE h1.lt, h2, h3, h4⟩))) | exact absurd rfl (hdep _ rfl ⟨7, .data⟩ (by simp) rfl)
      · rcases hi with rfl | rfl | rfl | rfl | rfl | rfl | rfl | rfl | rfl | rfl | rfl | rfl | rfl | rfl | rfl | rfl | rfl | rfl | rfl | rfl
        all_goals first | exact absurd rfl hij | exact trivial | (simp only at hE h ⊢; (first | exact getkS h (by decide) | (obtain ⟨t1, e, h⟩ := h; exact ⟨t1, getkS e (by decide), h⟩) | (obtain ⟨t1, e⟩ := h; exact ⟨t1, getkS e (by decide)⟩) | (obtain ⟨q1, x1, e, h1, h2, h3, h4⟩ := h; exact ⟨q1, x1, getkS e (by decide), (hE.block q1 h1.lt (.inr (by omega))).trans h1, h2, h3, h4⟩))) | exact absurd rfl (hdep _ rfl ⟨8, .data⟩ (by simp) rfl)
      · rcases hi with rfl | rfl | rfl | rfl | rfl | rfl | rfl | rfl | rfl | rfl | rfl | rfl | rfl | rfl | rfl | rfl | rfl | rfl | rfl | rfl
        all_goals first | exact absurd rfl hij | exact trivial | (simp only at hE h ⊢; (first | exact getkS h (by decide) | (obtain ⟨t1, e, h⟩ := h; exact ⟨t1, getkS e (by decide), h⟩) | (obtain ⟨t1, e⟩ := h; exact ⟨t1, getkS e (by decide)⟩) | (obtain ⟨q1, x1, e, h1, h2, h3, h4⟩ := h; exact ⟨q1, x1, getkS e (by decide), h1.below hE h1.lt, h2, h3, h4⟩))) | exact absurd rfl (hdep _ rfl ⟨9, .data⟩ (by simp) rfl)
      · rcases hi with rfl | rfl | rfl | rfl | rfl | rfl | rfl | rfl | rfl | rfl | rfl | rfl | rfl | rfl | rfl | rfl | rfl | rfl | rfl | rfl
        all_goals first | exact absurd rfl hij | exact trivial | (simp only at hE h ⊢; (first | exact getkS h (by decide) | (obtain ⟨t1, e, h⟩ := h; exact ⟨t1, getkS e (by decide), h⟩) | (obtain ⟨t1, e⟩ := h; exact ⟨t1, getkS e (by decide)⟩) | (obtain ⟨q1, x1, e, h1, h2, h3, h4⟩ := h; exact ⟨q1, x1, getkS e (by decide), h1.below hE h1.lt, h2, h3, h4⟩))) | exact absurd rfl (hdep _ rfl ⟨10, .data⟩ (by simp) rfl)
      · rcases hi with rfl | rfl | rfl | rfl | rfl | rfl | rfl | rfl | rfl | rfl | rfl | rfl | rfl | rfl | rfl | rfl | rfl | rfl | rfl | rfl
        all_goals first | exact absurd rfl hij | exact trivial | (simp only at hE h ⊢; (first | exact getkS h (by decide) | (obtain ⟨t1, e, h⟩ := h; exact ⟨t1, getkS e (by decide), h⟩) | (obtain ⟨t1, e⟩ := h; exact ⟨t1, getkS e (by decide)⟩) | (obtain ⟨q1, x1, e, h1, h2, h3, h4⟩ := h; exact ⟨q1, x1, getkS e (by decide), h1.below hE h1.lt, h2, h3, h4⟩))) | exact absurd rfl (hdep _ rfl ⟨11, .data⟩ (by simp) rfl)
      · rcases hi with rfl | rfl | rfl | rfl | rfl | rfl | rfl | rfl | rfl | rfl | rfl | rfl | rfl | rfl | rfl | rfl | rfl | rfl | rfl | rfl
        all_goals first | exact absurd rfl hij | exact trivial | (simp only at hE h ⊢; (first | exact getkS h (by decide) | (obtain ⟨t1, e, h⟩ := h; exact ⟨t1, getkS e (by decide), h⟩) | (obtain ⟨t1, e⟩ := h; exact ⟨t1, getkS e (by decide)⟩) | (obtain ⟨q1, x1, e, h1, h2, h3, h4⟩ := h; exact ⟨q1, x1, getkS e (by decide), h1.below hE h1.lt, h2, h3, h4⟩))) | exact absurd rfl (hdep _ rfl ⟨12, .data⟩ (by simp) rfl)
      · rcases hi with rfl | rfl | rfl | rfl | rfl | rfl | rfl | rfl | rfl | rfl | rfl | rfl | rfl | rfl | rfl | rfl | rfl | rfl | rfl | rfl
        all_goals first | exact absurd rfl hij | exact trivial | (simp only at hE h ⊢; (first | exact getkS h (by decide) | (obtain ⟨t1, e, h⟩ := h; exact ⟨t1, getkS e (by decide), h⟩) | (obtain ⟨t1, e⟩ := h; exact ⟨t1, getkS e (by decide)⟩) | (obtain ⟨q1, x1, e, h1, h2, h3, h4⟩ := h; exact ⟨q1, x1, getkS e (by decide), h1.below hE h1.lt, h2, h3, h4⟩))) | exact absurd rfl (hdep _ rfl ⟨13, .data⟩ (by simp) rfl)
      · rcases hi with rfl | rfl | rfl | rfl | rfl | rfl | rfl | rfl | rfl | rfl | rfl | rfl | rfl | rfl | rfl | rfl | rfl | rfl | rfl | rfl
        all_goals first | exact absurd rfl hij | exact trivial | (simp only at hE h ⊢; (first | exact getkS h (by decide) | (obtain ⟨t1, e, h⟩ := h; exact ⟨t1, getkS e (by decide), h⟩) | (obtain ⟨t1, e⟩ := h; exact ⟨t1, getkS e (by decide)⟩) | (obtain ⟨q1, x1, e, h1, h2, h3, h4⟩ := h; exact ⟨q1, x1, getkS e (by decide), h1.below hE h1.lt, h2, h3, h4⟩))) | exact absurd rfl (hdep _ rfl ⟨14, .data⟩ (by simp) rfl)
      · rcases hi with rfl | rfl | rfl | rfl | rfl | rfl | rfl | rfl | rfl | rfl | rfl | rfl | rfl | rfl | rfl | rfl | rfl | rfl | rfl | rfl
        all_goals first | exact absurd rfl hij | exact trivial | (simp only at hE h ⊢; (first | exact getkS h (by decide) | (obtain ⟨t1, e, h⟩ := h; exact ⟨t1, getkS e (by decide), h⟩) | (obtain ⟨t1, e⟩ := h; exact ⟨t1, getkS e (by decide)⟩) | (obtain ⟨q1, x1, e, h1, h2, h3, h4⟩ := h; exact ⟨q1, x1, getkS e (by decide), h1.below hE h1.lt, h2, h3, h4⟩))) | exact absurd rfl (hdep _ rfl ⟨15, .data⟩ (by simp) rfl)
      · rcases hi with rfl | rfl | rfl | rfl | rfl | rfl | rfl | rfl | rfl | rfl | rfl | rfl | rfl | rfl | rfl | rfl | rfl | rfl | rfl | rfl
        all_goals first | exact absurd rfl hij | exact trivial | (simp only at hE h ⊢; (first | exact getkS h (by decide) | (obtain ⟨t1, e, h⟩ := h; exact ⟨t1, getkS e (by decide), h⟩) | (obtain ⟨t1, e⟩ := h; exact ⟨t1, getkS e (by decide)⟩) | (obtain ⟨q1, x1, e, h1, h2, h3, h4⟩ := h; exact ⟨q1, x1, getkS e (by decide), h1.below hE h1.lt, h2, h3, h4⟩))) | exact absurd rfl (hdep _ rfl ⟨16, .data⟩ (by simp) rfl)
      · rcases hi with rfl | rfl | rfl | rfl | rfl | rfl | rfl | rfl | rfl | rfl | rfl | rfl | rfl | rfl | rfl | rfl | rfl | rfl | rfl | rfl
        all_goals first | exact absurd rfl hij | exact trivial | (simp only at hE h ⊢; (first | exact getkS h (by decide) | (obtain ⟨t1, e, h⟩ := h; exact ⟨t1, getkS e (by decide), h⟩) | (obtain ⟨t1, e⟩ := h; exact ⟨t1, getkS e (by decide)⟩) | (obtain ⟨q1, x1, e, h1, h2, h3, h4⟩ := h; exact ⟨q1, x1, getkS e (by decide), h1.below hE h1.lt, h2, h3, h4⟩))) | exact absurd rfl (hdep _ rfl ⟨17, .data⟩ (by simp) rfl)
      · rcases hi with rfl | rfl | rfl | rfl | rfl | rfl | rfl | rfl | rfl | rfl | rfl | rfl | rfl | rfl | rfl | rfl | rfl | rfl | rfl | rfl
        all_goals first | exact absurd rfl hij | exact trivial | (simp only at hE h ⊢; (first | exact getkS h (by decide) | (obtain ⟨t1, e, h⟩ := h; exact ⟨t1, getkS e (by decide), h⟩) | (obtain ⟨t1, e⟩ := h; exact ⟨t1, getkS e (by decide)⟩) | (obtain ⟨q1, x1, e, h1, h2, h3, h4⟩ := h; exact ⟨q1, x1, getkS e (by decide), h1.below hE h1.lt, h2, h3, h4⟩))) | exact absurd rfl (hdep _ rfl ⟨18, .data⟩ (by simp) rfl)
      · rcases hi with rfl | rfl | rfl | rfl | rfl | rfl | rfl | rfl | rfl | rfl | rfl | rfl | rfl | rfl | rfl | rfl | rfl | rfl | rfl | rfl
        all_goals first | exact absurd rfl hij | exact trivial | (simp only at hE h ⊢; (first | exact getkS h (by decide) | (obtain ⟨t1, e, h⟩ := h; exact ⟨t1, getkS e (by decide), h⟩) | (obtain ⟨t1, e⟩ := h; exact ⟨t1, getkS e (by decide)⟩) | (obtain ⟨q1, x1, e, h1, h2, h3, h4⟩ := h; exact ⟨q1, x1, getkS e (by decide), h1.below hE h1.lt, h2, h3, h4⟩))) | exact absurd rfl (hdep _ rfl ⟨19, .data⟩ (by simp) rfl)
    · intro j o hj ho a' w' hC hsame hdep
      simp only [List.mem_cons, List.not_mem_nil, or_false] at hj
      rcases hj with rfl | rfl | rfl | rfl | rfl | rfl | rfl | rfl | rfl | rfl | rfl | rfl | rfl | rfl | rfl | rfl | rfl | rfl | rfl | rfl
      all_goals obtain rfl := Option.some.inj ho
      · have hs : a'.tmps.getD 1 undef = .string s := hsame 1 (by rfl)
        refine wp_val (w2 := w') (.string s) (fun K hK => ?_) ⟨_, rfl, hC, Below.refl _ _, fun b hb hb2 => hb 47 rfl⟩
        clear hsame hdep
        unfold Oper.wp
        simp [execOp, Act.eval, go_sem, hs]
        exact hK
      · have hs : a'.tmps.getD 5 undef = .int .i64 (k : Int) := hsame 5 (by rfl)
        refine wp_val (w2 := w') (.int .i64 (k : Int)) (fun K hK => ?_) ⟨_, rfl, hC, Below.refl _ _, fun b hb hb2 => hb 48 rfl⟩
        clear hsame hdep
        unfold Oper.wp
        simp [execOp, Act.eval, go_sem, hs]
        exact hK
      · have e1 : a'.tmps.getD 47 undef = .string s := hdep ⟨0, .data⟩ (by simp) rfl
        have e2 : a'.tmps.getD 48 undef = .int .i64 (k : Int) := hdep ⟨1, .data⟩ (by simp) rfl
        refine wp_call (fun u wq => (∃ t : ByteArray, u = .string t ∧ t.size ≤ 100) ∧ wq = w') (fun K hK => ?_) ?_
        · clear hsame hdep
          unfold Oper.wp
          simp [execOp, Act.eval, go_sem, e1, e2, hki]
          refine hK _ _ ⟨⟨_, rfl, ?_⟩, rfl⟩
          have := HSS.out; rw [ByteArray.size_extract]; omega
        · rintro u w3' ⟨⟨t, rfl, ht⟩, rfl⟩
          exact ⟨_, rfl, hC, Below.refl _ _, fun b hb _ => ⟨t, hb 49 rfl, ht⟩⟩
      · have hs : a'.tmps.getD 1 undef = .string s := hsame 1 (by rfl)
        refine wp_val (w2 := w') (.string s) (fun K hK => ?_) ⟨_, rfl, hC, Below.refl _ _, fun b hb hb2 => hb 50 rfl⟩
        clear hsame hdep
        unfold Oper.wp
        simp [execOp, Act.eval, go_sem, hs]
        exact hK
      · have hs : a'.tmps.getD 5 undef = .int .i64 (k : Int) := hsame 5 (by rfl)
        refine wp_val (w2 := w') (.int .i64 (k : Int)) (fun K hK => ?_) ⟨_, rfl, hC, Below.refl _ _, fun b hb hb2 => hb 51 rfl⟩
        clear hsame hdep
        unfold Oper.wp
        simp [execOp, Act.eval, go_sem, hs]
        exact hK
      · have e1 : a'.tmps.getD 50 undef = .string s := hdep ⟨3, .data⟩ (by simp) rfl
        have e2 : a'.tmps.getD 51 undef = .int .i64 (k : Int) := hdep ⟨4, .data⟩ (by simp) rfl
        refine wp_call (fun u wq => (∃ x : Int, u = .int .u8 x) ∧ wq = w') (fun K hK => ?_) ?_
        · clear hsame hdep
          unfold Oper.wp
          simp [execOp, Act.eval, go_sem, e1, e2, hkl]
          exact hK _ _ ⟨⟨_, rfl⟩, rfl⟩
        · rintro u w3' ⟨⟨x, rfl⟩, rfl⟩
          exact ⟨_, rfl, hC, Below.refl _ _, fun b hb _ => ⟨x, hb 52 rfl⟩⟩
      · obtain ⟨y0, e0⟩ := hdep ⟨5, .data⟩ (by simp) rfl
        refine wp_call (fun u wq => (∃ x : Int, u = .int .i64 x) ∧ wq = w') (fun K hK => ?_) ?_
        · clear hsame hdep
          unfold Oper.wp
          simp [execOp, Act.eval, go_sem, e0]
          exact hK _ _ ⟨⟨_, rfl⟩, rfl⟩
        · rintro u w3' ⟨⟨x, rfl⟩, rfl⟩
          exact ⟨_, rfl, hC, Below.refl _ _, fun b hb _ => ⟨x, hb 53 rfl⟩⟩
      · have hs : a'.tmps.getD 0 undef = .pointer (some ⟨cb, 0, none⟩) := hsame 0 (by rfl)
        refine wp_val (w2 := w') (.pointer (some ⟨cb, 0, none⟩)) (fun K hK => ?_) ⟨_, rfl, hC, Below.refl _ _, fun b hb hb2 => hb 54 rfl⟩
        clear hsame hdep
        unfold Oper.wp
        simp [execOp, Act.eval, go_sem, hs]
        exact hK
      · have e1 : a'.tmps.getD 54 undef = .pointer (some ⟨cb, 0, none⟩) := hdep ⟨7, .data⟩ (by simp) rfl
        refine wp_call (fun u wq => (∃ x : Int, u = .int .i64 x) ∧ Chg cb (cb + 1) w' wq ∧ Cur wq cb A n c) (fun K hK => ?_) ?_
        · clear hsame hdep
          unfold Oper.wp
          simp [Act.eval, e1, go_sem]
          refine (l1Below_any cb A n c 255 _ hC.2 (by omega)).mono ?_
          rintro e w3 ⟨v, rfl, ⟨y, rfl, _, _⟩, hg, hu⟩
          exact hK _ _ ⟨⟨y, rfl⟩, hg, hu⟩
        · rintro u w3 ⟨⟨y, rfl⟩, hg, hu⟩
          exact ⟨_, rfl, ⟨hC.1.trans hg, hu⟩, hg, fun b hb _ => ⟨y, hb 55 rfl⟩⟩
      · obtain ⟨y0, e0⟩ := hdep ⟨8, .data⟩ (by simp) rfl
        refine wp_call (fun u wq => (∃ x : Int, u = .int .i64 x) ∧ wq = w') (fun K hK => ?_) ?_
        · clear hsame hdep
          unfold Oper.wp
          simp [execOp, Act.eval, go_sem, e0]
          exact hK _ _ ⟨⟨_, rfl⟩, rfl⟩
        · rintro u w3' ⟨⟨x, rfl⟩, rfl⟩
          exact ⟨_, rfl, hC, Below.refl _ _, fun b hb _ => ⟨x, hb 56 rfl⟩⟩
      · obtain ⟨y0, e0⟩ := hdep ⟨6, .data⟩ (by simp) rfl
        obtain ⟨y1, e1⟩ := hdep ⟨9, .data⟩ (by simp) rfl
        refine wp_call (fun u wq => (∃ x : Int, u = .int .i64 x) ∧ wq = w') (fun K hK => ?_) ?_
        · clear hsame hdep
          unfold Oper.wp
          simp [execOp, Act.eval, go_sem, e0, e1]
          exact hK _ _ ⟨⟨_, rfl⟩, rfl⟩
        · rintro u w3' ⟨⟨x, rfl⟩, rfl⟩
          exact ⟨_, rfl, hC, Below.refl _ _, fun b hb _ => ⟨x, hb 57 rfl⟩⟩
      · obtain ⟨y, e1⟩ := hdep ⟨10, .data⟩ (by simp) rfl
        have hw := wrap_u8 y
        refine wp_val (w2 := w') (.int .u8 (IntKind.u8.wrap y)) (fun K hK => ?_) ⟨_, rfl, hC, Below.refl _ _, fun b hb hb2 => ⟨_, hb 58 rfl, hw⟩⟩
        clear hsame hdep
        unfold Oper.wp
        simp [execOp, Act.eval, go_sem, e1]
        exact hK
      · obtain ⟨x, e1, hx⟩ := hdep ⟨11, .data⟩ (by simp) rfl
        have e1q : (a'.tmps[58]?).getD undef = .int .u8 x := by simpa using e1
        have hnew := heap_alloc_new w' (.cells #[.int .u8 x] 5)
        have hcq : cb < w'.heap.size := hC.2.lt
        refine wp_val (w2 := w'.alloc (.cells #[.int .u8 x] 5)) (.slice (some ⟨w'.heap.size, 0, none⟩) 1 1) (fun K hK => ?_) ⟨_, rfl, ⟨hC.1.alloc _, hC.2.alloc _⟩, (Below.refl _ _).alloc (Nat.le_refl _) _, fun b hb _ => ⟨w'.heap.size, x, hb 59 rfl, show Blk _ _ _ _ from hnew, hx.1, hx.2, hcq⟩⟩
        clear hsame hdep hnew
        unfold Oper.wp
        simp [execOp, Act.eval, go_sem, e1q]
        exact hK
      · obtain ⟨q, x, e1, hb1, hx0, hx1, hcq⟩ := hdep ⟨12, .data⟩ (by simp) rfl
        have kc := conv_one hb1 hx0 hx1
        refine wp_call (fun u wq => (∃ t : ByteArray, u = .string t ∧ t.size ≤ 1) ∧ wq = w') (fun K hK => ?_) ?_
        · clear hsame hdep
          unfold Oper.wp
          simp [execOp, Act.eval, go_sem, e1, kc]
          refine hK _ _ ⟨⟨_, rfl, ?_⟩, rfl⟩
          exact Nat.le_refl 1
        · rintro u w3' ⟨⟨t, rfl, ht⟩, rfl⟩
          exact ⟨_, rfl, hC, Below.refl _ _, fun b hb _ => ⟨t, hb 60 rfl, ht⟩⟩
      · obtain ⟨t0, e0, ht0⟩ := hdep ⟨2, .data⟩ (by simp) rfl
        obtain ⟨t1, e1, ht1⟩ := hdep ⟨13, .data⟩ (by simp) rfl
        have hcat : ¬ 9223372036854775807 < t0.size + t1.size := by omega
        refine wp_call (fun u wq => (∃ t : ByteArray, u = .string t ∧ t.size ≤ 101) ∧ wq = w') (fun K hK => ?_) ?_
        · clear hsame hdep
          unfold Oper.wp
          simp [execOp, Act.eval, go_sem, e0, e1, hcat]
          refine hK _ _ ⟨⟨_, rfl, ?_⟩, rfl⟩
          rw [ByteArray.size_append]; omega
        · rintro u w3' ⟨⟨t, rfl, ht⟩, rfl⟩
          exact ⟨_, rfl, hC, Below.refl _ _, fun b hb _ => ⟨t, hb 61 rfl, ht⟩⟩
      · have hs : a'.tmps.getD 1 undef = .string s := hsame 1 (by rfl)
        refine wp_val (w2 := w') (.string s) (fun K hK => ?_) ⟨_, rfl, hC, Below.refl _ _, fun b hb hb2 => hb 62 rfl⟩
        clear hsame hdep
        unfold Oper.wp
        simp [execOp, Act.eval, go_sem, hs]
        exact hK
      · have hs : a'.tmps.getD 5 undef = .int .i64 (k : Int) := hsame 5 (by rfl)
        refine wp_val (w2 := w') (.int .i64 (k : Int)) (fun K hK => ?_) ⟨_, rfl, hC, Below.refl _ _, fun b hb hb2 => hb 63 rfl⟩
        clear hsame hdep
        unfold Oper.wp
        simp [execOp, Act.eval, go_sem, hs]
        exact hK
      · have e1 : a'.tmps.getD 63 undef = .int .i64 (k : Int) := hdep ⟨16, .data⟩ (by simp) rfl
        have hw : IntKind.i64.wrap ((k : Int) + 1) = (k : Int) + 1 := low_i64 _ (by omega) (by have := HSS.out; omega)
        refine wp_val (w2 := w') (.int .i64 ((k : Int) + 1)) (fun K hK => ?_) ⟨_, rfl, hC, Below.refl _ _, fun b hb hb2 => hb 64 rfl⟩
        clear hsame hdep
        unfold Oper.wp
        simp [execOp, Act.eval, go_sem, e1, hw]
        exact hK
      · have e1 : a'.tmps.getD 62 undef = .string s := hdep ⟨15, .data⟩ (by simp) rfl
        have e2 : a'.tmps.getD 64 undef = .int .i64 ((k : Int) + 1) := hdep ⟨17, .data⟩ (by simp) rfl
        refine wp_call (fun u wq => (∃ t : ByteArray, u = .string t ∧ t.size ≤ 100) ∧ wq = w') (fun K hK => ?_) ?_
        · clear hsame hdep
          unfold Oper.wp
          simp [execOp, Act.eval, go_sem, e1, e2, hki1, hk1i]
          refine hK _ _ ⟨⟨_, rfl, ?_⟩, rfl⟩
          have := HSS.out; rw [ByteArray.size_extract]; omega
        · rintro u w3' ⟨⟨t, rfl, ht⟩, rfl⟩
          exact ⟨_, rfl, hC, Below.refl _ _, fun b hb _ => ⟨t, hb 65 rfl, ht⟩⟩
      · obtain ⟨t0, e0, ht0⟩ := hdep ⟨14, .data⟩ (by simp) rfl
        obtain ⟨t1, e1, ht1⟩ := hdep ⟨18, .data⟩ (by simp) rfl
        have hcat : ¬ 9223372036854775807 < t0.size + t1.size := by omega
        refine wp_call (fun u wq => (∃ t : ByteArray, u = .string t ∧ t.size ≤ 201) ∧ wq = w') (fun K hK => ?_) ?_
        · clear hsame hdep
          unfold Oper.wp
          simp [execOp, Act.eval, go_sem, e0, e1, hcat]
          refine hK _ _ ⟨⟨_, rfl, ?_⟩, rfl⟩
          rw [ByteArray.size_append]; omega
        · rintro u w3' ⟨⟨t, rfl, ht⟩, rfl⟩
          exact ⟨_, rfl, hC, Below.refl _ _, fun b hb _ => ⟨t, hb 66 rfl, ht⟩⟩
    · intro a' w' hC ha hP
      obtain ⟨t, t4, ht⟩ := hP 19 (by simp)
      clear hP
      simp only [coreOps, List.filterMap_cons, List.filterMap_nil, List.getElem?_cons_zero, List.getElem?_cons_succ, fillA, slotOf, Act.put, t4] at ha
      generalize a'.tmps.getD 47 undef = u47 at ha
      generalize a'.tmps.getD 48 undef = u48 at ha
      generalize a'.tmps.getD 49 undef = u49 at ha
      generalize a'.tmps.getD 50 undef = u50 at ha
      generalize a'.tmps.getD 51 undef = u51 at ha
      generalize a'.tmps.getD 52 undef = u52 at ha
      generalize a'.tmps.getD 53 undef = u53 at ha
      generalize a'.tmps.getD 54 undef = u54 at ha
      generalize a'.tmps.getD 55 undef = u55 at ha
      generalize a'.tmps.getD 56 undef = u56 at ha
      generalize a'.tmps.getD 57 undef = u57 at ha
      generalize a'.tmps.getD 58 undef = u58 at ha
      generalize a'.tmps.getD 59 undef = u59 at ha
      generalize a'.tmps.getD 60 undef = u60 at ha
      generalize a'.tmps.getD 61 undef = u61 at ha
      generalize a'.tmps.getD 62 undef = u62 at ha
      generalize a'.tmps.getD 63 undef = u63 at ha
      generalize a'.tmps.getD 64 undef = u64 at ha
      generalize a'.tmps.getD 65 undef = u65 at ha
      subst ha
      clear t4
      have HCC := Lib.hid hC
      clear hC
      show wpAny _ _ _ _ 1 _ _ _
      refine wpAny_ready (rs := [20]) (by kernel_rfl) (by simp) ?_
      refine AllReady.cons rfl (fun K hK => ?_) AllReady.nil
      go_simp
      refine hK _ _ ?_
      clear hK K
      refine wpAny_done (by kernel_rfl) ?_ _
      go_wp2_with fail
      go_ret
      exact ⟨_, rfl, ⟨t, rfl, by omega⟩, G2.out.trans HCC.out.1, HCC.out.2⟩
end Go.Proofs.YteaggbbimhpolaaDoor
