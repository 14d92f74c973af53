/- A header behind an anchor drawn: l11Next. (written by wip/drawnext.py) -/
import Derived.Test.YtelnnegfkdfpiaaGreatDoorCom
import Derived.Test.YtelnnegfkdfpiaaGreatDoorRegU
import Derived.Deep.CutBlock
import Derived.Deep.RegionWith
import Derived.Deep.DeepCutAuto
import Derived.WalkKit
import Derived.WalkSpells
import Derived.WalkLawsBesides
import Derived.Lib.Hide
import Derived.Test.YtelnnegfkdfpiaaGreatDoorDrawAnc
namespace Go.Proofs.YtelnnegfkdfpiaaGreatDoor
open Go.RowKit

theorem getkV {b : Act} {dd : Option Nat} {v : Value} {s : Nat} {X : Value} (h : b.tmps.getD s undef = X) (hd : dd ≠ some s) : (b.put dd v).tmps.getD s undef = X := by
  cases dd with
  | none => exact h
  | some d => rw [put_getD_ne b d s v (fun e => hd (by rw [e]))]; exact h
theorem Rd.ofSig {w : World} {g : Nat} {x : Int} {s : ByteArray} (h : Blk w g 91 #[.int .i64 x, .string s]) : Rd w w.heap.size (some ⟨g, 0, none⟩) 1 1 2 (csigC ⟨x, s⟩) := by
  refine ⟨rfl, Nat.le_refl _, by unfold maxLen; omega, fun _ => ⟨g, 0, rfl, h.lt, fun j hj => ?_⟩⟩
  rw [h.cell, Nat.zero_add]; simp [csigC]
theorem csigC_one1 (x : Int) (s : ByteArray) : ∀ u ∈ csigC ⟨x, s⟩, u.oneCell' = true := by
  intro u hu
  simp only [csigC, List.mem_cons, List.not_mem_nil, or_false] at hu
  rcases hu with rfl | rfl <;> rfl
theorem digest_small (p : VoteD) : (⟨(digestL p).toArray⟩ : ByteArray).size ≤ 2000000 := by
  have := digestL_len p
  show (digestL p).toArray.size ≤ 2000000
  simp; omega
/-- a commit made -/
def ForOut (h : HeaderD) (r : Int) (m : Nat) (w : World) (e : Ending) (w' : World) : Prop :=
  ∃ (sg : List CSigD) (D : Option Addr) (q : Nat), e = .returned (.agg #[.int .i64 h.h, .int .i64 r, .string (headIdB h), .slice D sg.length q]) ∧ OwnL csigC 2 91 w' w.heap.size w'.heap.size D sg.length q sg ∧ sg.length ≤ m ∧ Below w.heap.size w w'

set_option maxRecDepth 100000 in
set_option maxHeartbeats 8000000 in
theorem l9For_any (h : HeaderD) (r : Int) (B : Option Addr) (d : Nat) (ids : List Int) (w : World) (hi : RdL intC 1 w w.heap.size B ids.length d ids) (hm : ids.length ≤ 100) :
    Calls Tryz.prog 65 #[.agg #[.int .i64 h.h, .int .i64 h.t, .string h.last, .string h.vals, .string h.next, .string h.data], .int .i64 r, .slice B ids.length d] w (ForOut h r ids.length w) := by
  obtain ⟨i0, hi0, hz0, hz1, hz2⟩ := info_parts infoCSig
  have HI := Lib.hid hi
  clear hi
  go_enter Tryz.func65, Tryz.ntmps65
  go_upto_region 1 with fail
  obtain ⟨v1, hwb⟩ : ∃ q, q = (w.alloc (.cells #[.int .i64 h.h, .int .i64 h.t, .string h.last, .string h.vals, .string h.next, .string h.data] 27)).alloc (.cells #[.int .i64 0, .int .i64 0, .string ⟨#[]⟩, .slice none 0 0] 33) := ⟨_, rfl⟩
  rw [← hwb]
  have hxH : Blk v1 w.heap.size 27 #[.int .i64 h.h, .int .i64 h.t, .string h.last, .string h.vals, .string h.next, .string h.data] := by rw [hwb]; have h := heap_alloc_new w (.cells #[.int .i64 h.h, .int .i64 h.t, .string h.last, .string h.vals, .string h.next, .string h.data] 27); (try simp only [World.size_alloc] at h); exact (Blk.alloc h _)
  have hxR : Blk v1 (w.heap.size + 1) 33 #[.int .i64 0, .int .i64 0, .string ⟨#[]⟩, .slice none 0 0] := by rw [hwb]; have h := heap_alloc_new (w.alloc (.cells #[.int .i64 h.h, .int .i64 h.t, .string h.last, .string h.vals, .string h.next, .string h.data] 27)) (.cells #[.int .i64 0, .int .i64 0, .string ⟨#[]⟩, .slice none 0 0] 33); (try simp only [World.size_alloc] at h); exact h
  have hb0 : Below w.heap.size w v1 := by rw [hwb]; exact (Below.alloc (Below.alloc (Below.refl _ _) (by first | exact Nat.le_refl _ | (simp; done) | (simp; omega)) _) (by first | exact Nat.le_refl _ | (simp; done) | (simp; omega)) _)
  clear hwb
  have hs1 := hb0.size
  have XH1 := Lib.hid hxH
  have ltH := hxH.lt
  clear hxH
  have XR1 := Lib.hid hxR
  have ltR := hxR.lt
  clear hxR
  have B1 := Lib.hid hb0
  clear hb0
  go_cut [7] (fun sp wx => ∃ qq, sp = .pointer (some ⟨qq, 0, none⟩) ∧ v1.heap.size ≤ qq ∧ Blk wx qq 33 #[.int .i64 h.h, .int .i64 r, .string (headIdB h), .slice none 0 0] ∧ Below v1.heap.size v1 wx)
  case first =>
    have ceXH := XH1.out.cell
    have lbXH := XH1.out.lt
    refine wp_region_core3 [0, 1, 2, 3, 4, 5, 6] (fun w => Below v1.heap.size v1 w) (fun j wa wb => match j with | _ => Below wa.heap.size wa wb) (fun i bz wz => match i with
      | 0 => bz.tmps.getD 9 undef = .pointer (some ⟨w.heap.size, 0, none⟩)
      | 1 => bz.tmps.getD 10 undef = .int .i64 h.h
      | 2 => bz.tmps.getD 11 undef = .int .i64 r
      | 3 => bz.tmps.getD 12 undef = .agg #[.int .i64 h.h, .int .i64 h.t, .string h.last, .string h.vals, .string h.next, .string h.data]
      | 4 => bz.tmps.getD 13 undef = .string (headIdB h)
      | 5 => bz.tmps.getD 14 undef = .agg #[.int .i64 h.h, .int .i64 r, .string (headIdB h), .slice none 0 0]
      | 6 => ∃ qq, bz.tmps.getD 7 undef = .pointer (some ⟨qq, 0, none⟩) ∧ v1.heap.size ≤ qq ∧ Blk wz qq 33 #[.int .i64 0, .int .i64 0, .string ⟨#[]⟩, .slice none 0 0]
      | _ => True) (by kernel_rfl) (by kernel_rfl) ((Below.refl _ _).drew) ?_ ?_ ?_
    · intro b wa wb i j oj v hi hj hij hoj hdep hE h
      simp only [List.mem_cons, List.not_mem_nil, or_false] at hi hj
      rcases hj with rfl | rfl | rfl | rfl | rfl | rfl | rfl
      all_goals obtain rfl := Option.some.inj hoj
      · rcases hi with rfl | rfl | rfl | rfl | rfl | rfl | rfl
        all_goals first | exact absurd rfl hij | (simp only at hE h ⊢; first | exact getkV h (by decide) | (obtain ⟨qq, e, h1, h2⟩ := h; exact ⟨qq, getkV e (by decide), h1, h2.below hE h2.lt⟩)) | exact absurd rfl (hdep _ rfl ⟨0, .data⟩ (by simp) rfl)
      · rcases hi with rfl | rfl | rfl | rfl | rfl | rfl | rfl
        all_goals first | exact absurd rfl hij | (simp only at hE h ⊢; first | exact getkV h (by decide) | (obtain ⟨qq, e, h1, h2⟩ := h; exact ⟨qq, getkV e (by decide), h1, h2.below hE h2.lt⟩)) | exact absurd rfl (hdep _ rfl ⟨1, .data⟩ (by simp) rfl)
      · rcases hi with rfl | rfl | rfl | rfl | rfl | rfl | rfl
        all_goals first | exact absurd rfl hij | (simp only at hE h ⊢; first | exact getkV h (by decide) | (obtain ⟨qq, e, h1, h2⟩ := h; exact ⟨qq, getkV e (by decide), h1, h2.below hE h2.lt⟩)) | exact absurd rfl (hdep _ rfl ⟨2, .data⟩ (by simp) rfl)
      · rcases hi with rfl | rfl | rfl | rfl | rfl | rfl | rfl
        all_goals first | exact absurd rfl hij | (simp only at hE h ⊢; first | exact getkV h (by decide) | (obtain ⟨qq, e, h1, h2⟩ := h; exact ⟨qq, getkV e (by decide), h1, h2.below hE h2.lt⟩)) | exact absurd rfl (hdep _ rfl ⟨3, .data⟩ (by simp) rfl)
      · rcases hi with rfl | rfl | rfl | rfl | rfl | rfl | rfl
        all_goals first | exact absurd rfl hij | (simp only at hE h ⊢; first | exact getkV h (by decide) | (obtain ⟨qq, e, h1, h2⟩ := h; exact ⟨qq, getkV e (by decide), h1, h2.below hE h2.lt⟩)) | exact absurd rfl (hdep _ rfl ⟨4, .data⟩ (by simp) rfl)
      · rcases hi with rfl | rfl | rfl | rfl | rfl | rfl | rfl
        all_goals first | exact absurd rfl hij | (simp only at hE h ⊢; first | exact getkV h (by decide) | (obtain ⟨qq, e, h1, h2⟩ := h; exact ⟨qq, getkV e (by decide), h1, h2.below hE h2.lt⟩)) | exact absurd rfl (hdep _ rfl ⟨5, .data⟩ (by simp) rfl)
      · rcases hi with rfl | rfl | rfl | rfl | rfl | rfl | rfl
        all_goals first | exact absurd rfl hij | (simp only at hE h ⊢; first | exact getkV h (by decide) | (obtain ⟨qq, e, h1, h2⟩ := h; exact ⟨qq, getkV e (by decide), h1, h2.below hE h2.lt⟩)) | exact absurd rfl (hdep _ rfl ⟨6, .data⟩ (by simp) rfl)
    · intro j o hj ho a' w' hC hsame hdep
      have hz : v1.heap.size ≤ w'.heap.size := hC.size
      simp only [List.mem_cons, List.not_mem_nil, or_false] at hj
      rcases hj with rfl | rfl | rfl | rfl | rfl | rfl | rfl
      all_goals obtain rfl := Option.some.inj ho
      · have hss : a'.tmps.getD 3 undef = .pointer (some ⟨w.heap.size, 0, none⟩) := hsame 3 (by rfl)
        refine wp_val (w2 := w') (.pointer (some ⟨w.heap.size, 0, none⟩)) (fun K hK => ?_) ⟨_, rfl, hC, Below.refl _ _, fun b hb hb2 => hb 9 rfl⟩
        clear hsame hdep
        unfold Oper.wp
        simp [execOp, Act.eval, go_sem, hss]
        exact hK
      · have hss : a'.tmps.getD 9 undef = .pointer (some ⟨w.heap.size, 0, none⟩) := hdep ⟨0, .data⟩ (by simp) rfl
        have zz : ∀ o, w'.cell? ⟨w.heap.size, o, none⟩ = _ := fun o => (hC.cell (p := ⟨w.heap.size, o, none⟩) (by show w.heap.size < v1.heap.size; omega)).trans (ceXH o)
        refine wp_val (w2 := w') (.int .i64 h.h) (fun K hK => ?_) ⟨_, rfl, hC, Below.refl _ _, fun b hb hb2 => hb 10 rfl⟩
        clear hsame hdep
        unfold Oper.wp
        simp [execOp, Act.eval, go_sem, hss, zz]
        exact hK
      · have hss : a'.tmps.getD 1 undef = .int .i64 r := hsame 1 (by rfl)
        refine wp_val (w2 := w') (.int .i64 r) (fun K hK => ?_) ⟨_, rfl, hC, Below.refl _ _, fun b hb hb2 => hb 11 rfl⟩
        clear hsame hdep
        unfold Oper.wp
        simp [execOp, Act.eval, go_sem, hss]
        exact hK
      · have hss : a'.tmps.getD 3 undef = .pointer (some ⟨w.heap.size, 0, none⟩) := hsame 3 (by rfl)
        have zz : ∀ o, w'.cell? ⟨w.heap.size, o, none⟩ = _ := fun o => (hC.cell (p := ⟨w.heap.size, o, none⟩) (by show w.heap.size < v1.heap.size; omega)).trans (ceXH o)
        refine wp_val (w2 := w') (.agg #[.int .i64 h.h, .int .i64 h.t, .string h.last, .string h.vals, .string h.next, .string h.data]) (fun K hK => ?_) ⟨_, rfl, hC, Below.refl _ _, fun b hb hb2 => hb 12 rfl⟩
        clear hsame hdep
        unfold Oper.wp
        simp [execOp, Act.eval, go_sem, hss, zz]
        exact hK
      · have e1 : a'.tmps.getD 12 undef = .agg #[.int .i64 h.h, .int .i64 h.t, .string h.last, .string h.vals, .string h.next, .string h.data] := hdep ⟨3, .data⟩ (by simp) rfl
        refine wp_call (fun u w2 => u = .string (headIdB h) ∧ Below w'.heap.size w' w2) (fun K hK => ?_) ?_
        · clear hsame hdep
          unfold Oper.wp
          simp [Act.eval, e1, go_sem]
          refine (sHeadId_any h _).mono ?_
          rintro e w3 ⟨rfl, hb3⟩
          exact hK _ _ ⟨rfl, hb3⟩
        · rintro u w3 ⟨rfl, hb3⟩
          exact ⟨_, rfl, hC.trans (hb3.mono hz), hb3, fun b hb _ => hb 13 rfl⟩
      · have e1 : a'.tmps.getD 10 undef = .int .i64 h.h := hdep ⟨1, .data⟩ (by simp) rfl
        have e2 : a'.tmps.getD 11 undef = .int .i64 r := hdep ⟨2, .data⟩ (by simp) rfl
        have e3 : a'.tmps.getD 13 undef = .string (headIdB h) := hdep ⟨4, .data⟩ (by simp) rfl
        have e1q := e1
        have e2q := e2
        have e3q := e3
        rw [Array.getD_eq_getD_getElem?] at e1q e2q e3q
        refine wp_val (w2 := w') (.agg #[.int .i64 h.h, .int .i64 r, .string (headIdB h), .slice none 0 0]) (fun K hK => ?_) ⟨_, rfl, hC, Below.refl _ _, fun b hb hb2 => hb 14 rfl⟩
        clear hsame hdep
        unfold Oper.wp
        simp [execOp, Act.eval, go_sem, e1q, e2q, e3q]
        exact hK
      · refine wp_val (w2 := w'.alloc (.cells #[.int .i64 0, .int .i64 0, .string ⟨#[]⟩, .slice none 0 0] 33)) (.pointer (some ⟨w'.heap.size, 0, none⟩)) (fun K hK => ?_) ⟨_, rfl, hC.alloc hz _, (Below.refl _ _).alloc (Nat.le_refl _) _, fun b hb hb2 => ⟨w'.heap.size, hb 7 rfl, hz, heap_alloc_new w' _⟩⟩
        clear hsame hdep
        unfold Oper.wp
        simp [execOp, go_sem]
        exact hK
    · intro a' w' hC ha hP
      obtain ⟨q0, e7, hq0, hblk⟩ := hP 6 (by simp)
      have e14 : a'.tmps.getD 14 undef = .agg #[.int .i64 h.h, .int .i64 r, .string (headIdB h), .slice none 0 0] := hP 5 (by simp)
      clear hP
      simp only [coreOps, List.filterMap_cons, List.filterMap_nil, List.getElem?_cons_zero, List.getElem?_cons_succ, fillA, slotOf, Act.put, List.setIfInBounds_toArray, List.set_cons_zero, List.set_cons_succ, e7, e14] at ha
      generalize a'.tmps.getD 9 undef = u9 at ha
      generalize a'.tmps.getD 10 undef = u10 at ha
      generalize a'.tmps.getD 11 undef = u11 at ha
      generalize a'.tmps.getD 12 undef = u12 at ha
      generalize a'.tmps.getD 13 undef = u13 at ha
      subst ha
      have f := hblk.cell
      have ff := hblk.frozen
      have flt := hblk.lt
      show wpAny _ _ _ _ 1 _ _ _
      refine wpAny_ready (rs := [7]) (by kernel_rfl) (by simp) ?_
      refine AllReady.cons rfl (fun K hK => ?_) AllReady.nil
      go_simp
      refine hK _ _ ?_
      clear hK K
      refine wpAny_done (by kernel_rfl) ?_ _
      go_wp2_with fail
      go_meet
      refine ⟨q0, rfl, hq0, ?_, ?_⟩
      · have h := (((hblk.set_ 0 (.int .i64 h.h)).set_ 1 (.int .i64 r)).set_ 2 (.string (headIdB h))).set_ 3 (.slice none 0 0)
        simp only [List.setIfInBounds_toArray, List.set_cons_zero, List.set_cons_succ] at h
        exact h
      · refine hC.trans ?_
        (repeat (first | with_reducible refine Below.setCell ?_ (by first | exact Nat.le_refl _ | (simp; done) | (simp; omega)) _ | with_reducible refine Below.alloc ?_ (by first | exact Nat.le_refl _ | (simp; done) | (simp; omega)) _ | with_reducible refine Below.drew ?_)); (with_reducible exact Below.refl _ _)
  case rest =>
  obtain ⟨qq, rfl, hqq, hbq, hb⟩ := hcut
  obtain ⟨v2, hwv⟩ : ∃ z, z = wc := ⟨_, rfl⟩
  subst hwv
  have hs2 := hb.size
  have XH2 := Lib.hid (XH1.out.below hb XH1.out.lt)
  have XR2 := Lib.hid (XR1.out.below hb XR1.out.lt)
  have B2 := Lib.hid (B1.out.trans (hb.mono B1.out.size))
  clear hb XH1 XR1 B1
  have XQ2 := Lib.hid hbq
  have ltQ := hbq.lt
  clear hbq
  have xq2 := XQ2.out.cell
  go_wp2_with fail
  clear xq2
  go_loopw [8] (fun i wr => ∃ (k : Nat) (sg : List CSigD) (D : Option Addr) (q : Nat), k ≤ ids.length ∧ sg.length ≤ k ∧ i = .int .i64 k ∧ Blk wr qq 33 #[.int .i64 h.h, .int .i64 r, .string (headIdB h), .slice D sg.length q] ∧ Blk wr (w.heap.size + 1) 33 #[.int .i64 0, .int .i64 0, .string ⟨#[]⟩, .slice none 0 0] ∧ OwnL csigC 2 91 wr (qq + 1) wr.heap.size D sg.length q sg ∧ Below w.heap.size w wr) (fun i _ => ids.length - (intOf i).toNat)
  case atStart => exact ⟨0, [], none, 0, by omega, by simp, rfl, XQ2.out, XR2.out, ⟨rfl, .inl ⟨rfl, rfl, rfl⟩⟩, B2.out⟩
  case round =>
    obtain ⟨k, sg, D, q, hk, hsk, rfl, hbq, hbr, ho, hb⟩ := hrel
    have HQ := Lib.hid hbq; have HR := Lib.hid hbr; have HO := Lib.hid ho; have HB := Lib.hid hb
    have hqr := hbq.lt
    have hrr := hbr.lt
    have hbz := hb.size
    have cq := hbq.cell
    clear hbq hbr ho hb XH2 XR2 XQ2 B2
    by_cases hkn : k < ids.length
    · obtain ⟨b0, off, x, rfl, hb1, hp, c0⟩ := int_cells (HI.out.below HB.out (Nat.le_refl _)) hkn
      clear hp
      have k0 : (0 : Int) ≤ k := by omega
      have k1 : (k : Int) < ids.length := by omega
      have hbo : b0 < wr.heap.size := by omega
      obtain ⟨dgb, hdz, HDG⟩ : ∃ dgb : ByteArray, dgb.size ≤ 2000000 ∧ ∀ wx : World, Hid (Calls Tryz.prog 83 #[.agg #[.int .i64 h.h, .int .i64 r, .int .i64 2, .string (headIdB h), .int .i64 x]] wx fun e w' => e = .returned (.string dgb) ∧ Below wx.heap.size wx w') := ⟨⟨(digestL ⟨h.h, r, 2, headIdB h, x⟩).toArray⟩, digest_small _, fun wx => sDigest_any ⟨h.h, r, 2, headIdB h, x⟩ wx⟩
      obtain ⟨sgb, HSG⟩ : ∃ sgb : ByteArray, ∀ wx : World, Hid (Calls Tryz.prog 82 #[.int .i64 x, .string dgb] wx fun e w' => e = .returned (.string sgb) ∧ Below wx.heap.size wx w') := ⟨_, fun wx => sSignAs_any x dgb wx hdz⟩
      clear hdz
      have HLV : ∀ wx : World, Hid (Calls Tryz.prog 53 #[.agg #[.int .i64 h.h, .int .i64 r, .string (headIdB h), .slice D sg.length q], .int .i64 x] wx fun e w' => e = .returned (.agg #[.int .i64 h.h, .int .i64 r, .int .i64 2, .string (headIdB h), .int .i64 x]) ∧ Below wx.heap.size wx w') := fun wx => l9Vote_any ⟨h.h, r, headIdB h⟩ D sg.length q x wx
      generalize headIdB h = hid at *
      go_upto_region 5 with fail
      refine wp_region_core3 [0, 1, 2, 3, 4, 5, 6, 7, 8, 9, 10, 11, 12, 13, 14, 15, 16, 17, 18, 19] (fun w => Below wr.heap.size wr w) (fun j wa wb => match j with | _ => Below wa.heap.size wa wb) (fun i bz wz => match i with
        | 0 => bz.tmps.getD 21 undef = .pointer (some ⟨qq, 3, none⟩)
        | 1 => bz.tmps.getD 22 undef = .slice D sg.length q
        | 2 => bz.tmps.getD 23 undef = .slice (some ⟨b0, off, none⟩) ids.length d
        | 3 => bz.tmps.getD 24 undef = .int .i64 k
        | 4 => bz.tmps.getD 25 undef = .pointer (some ⟨b0, off + k, none⟩)
        | 5 => bz.tmps.getD 26 undef = .int .i64 x
        | 6 => bz.tmps.getD 27 undef = .slice (some ⟨b0, off, none⟩) ids.length d
        | 7 => bz.tmps.getD 28 undef = .int .i64 k
        | 8 => bz.tmps.getD 29 undef = .pointer (some ⟨b0, off + k, none⟩)
        | 9 => bz.tmps.getD 30 undef = .int .i64 x
        | 10 => bz.tmps.getD 31 undef = .agg #[.int .i64 h.h, .int .i64 r, .string hid, .slice D sg.length q]
        | 11 => bz.tmps.getD 32 undef = .slice (some ⟨b0, off, none⟩) ids.length d
        | 12 => bz.tmps.getD 33 undef = .int .i64 k
        | 13 => bz.tmps.getD 34 undef = .pointer (some ⟨b0, off + k, none⟩)
        | 14 => bz.tmps.getD 35 undef = .int .i64 x
        | 15 => bz.tmps.getD 36 undef = .agg #[.int .i64 h.h, .int .i64 r, .int .i64 2, .string hid, .int .i64 x]
        | 16 => bz.tmps.getD 37 undef = .string dgb
        | 17 => bz.tmps.getD 38 undef = .string sgb
        | 18 => bz.tmps.getD 39 undef = .agg #[.int .i64 x, .string sgb]
        | 19 => ∃ g, bz.tmps.getD 40 undef = .slice (some ⟨g, 0, none⟩) 1 1 ∧ Blk wz g 91 #[.int .i64 x, .string sgb]
        | _ => True) (by kernel_rfl) (by kernel_rfl) ((Below.refl _ _).drew) ?_ ?_ ?_
      · intro b wa wb i j oj v hi hj hij hoj hdep hE h
        simp only [List.mem_cons, List.not_mem_nil, or_false] at hi hj
        rcases hj with rfl | rfl | rfl | rfl | rfl | rfl | rfl | rfl | rfl | rfl | rfl | rfl | rfl | rfl | rfl | rfl | rfl | rfl | rfl | rfl
        all_goals obtain rfl := Option.some.inj hoj
        · rcases hi with rfl | rfl | rfl | rfl | rfl | rfl | rfl | rfl | rfl | rfl | rfl | rfl | rfl | rfl | rfl | rfl | rfl | rfl | rfl | rfl
          all_goals first | exact absurd rfl hij | (simp only at hE h ⊢; first | exact getkV h (by decide) | (obtain ⟨g, e, h2⟩ := h; exact ⟨g, getkV e (by decide), h2.below hE h2.lt⟩)) | exact absurd rfl (hdep _ rfl ⟨0, .data⟩ (by simp) rfl)
        · rcases hi with rfl | rfl | rfl | rfl | rfl | rfl | rfl | rfl | rfl | rfl | rfl | rfl | rfl | rfl | rfl | rfl | rfl | rfl | rfl | rfl
          all_goals first | exact absurd rfl hij | (simp only at hE h ⊢; first | exact getkV h (by decide) | (obtain ⟨g, e, h2⟩ := h; exact ⟨g, getkV e (by decide), h2.below hE h2.lt⟩)) | exact absurd rfl (hdep _ rfl ⟨1, .data⟩ (by simp) rfl)
        · rcases hi with rfl | rfl | rfl | rfl | rfl | rfl | rfl | rfl | rfl | rfl | rfl | rfl | rfl | rfl | rfl | rfl | rfl | rfl | rfl | rfl
          all_goals first | exact absurd rfl hij | (simp only at hE h ⊢; first | exact getkV h (by decide) | (obtain ⟨g, e, h2⟩ := h; exact ⟨g, getkV e (by decide), h2.below hE h2.lt⟩)) | exact absurd rfl (hdep _ rfl ⟨2, .data⟩ (by simp) rfl)
        · rcases hi with rfl | rfl | rfl | rfl | rfl | rfl | rfl | rfl | rfl | rfl | rfl | rfl | rfl | rfl | rfl | rfl | rfl | rfl | rfl | rfl
          all_goals first | exact absurd rfl hij | (simp only at hE h ⊢; first | exact getkV h (by decide) | (obtain ⟨g, e, h2⟩ := h; exact ⟨g, getkV e (by decide), h2.below hE h2.lt⟩)) | exact absurd rfl (hdep _ rfl ⟨3, .data⟩ (by simp) rfl)
        · rcases hi with rfl | rfl | rfl | rfl | rfl | rfl | rfl | rfl | rfl | rfl | rfl | rfl | rfl | rfl | rfl | rfl | rfl | rfl | rfl | rfl
          all_goals first | exact absurd rfl hij | (simp only at hE h ⊢; first | exact getkV h (by decide) | (obtain ⟨g, e, h2⟩ := h; exact ⟨g, getkV e (by decide), h2.below hE h2.lt⟩)) | exact absurd rfl (hdep _ rfl ⟨4, .data⟩ (by simp) rfl)
        · rcases hi with rfl | rfl | rfl | rfl | rfl | rfl | rfl | rfl | rfl | rfl | rfl | rfl | rfl | rfl | rfl | rfl | rfl | rfl | rfl | rfl
          all_goals first | exact absurd rfl hij | (simp only at hE h ⊢; first | exact getkV h (by decide) | (obtain ⟨g, e, h2⟩ := h; exact ⟨g, getkV e (by decide), h2.below hE h2.lt⟩)) | exact absurd rfl (hdep _ rfl ⟨5, .data⟩ (by simp) rfl)
        · rcases hi with rfl | rfl | rfl | rfl | rfl | rfl | rfl | rfl | rfl | rfl | rfl | rfl | rfl | rfl | rfl | rfl | rfl | rfl | rfl | rfl
          all_goals first | exact absurd rfl hij | (simp only at hE h ⊢; first | exact getkV h (by decide) | (obtain ⟨g, e, h2⟩ := h; exact ⟨g, getkV e (by decide), h2.below hE h2.lt⟩)) | exact absurd rfl (hdep _ rfl ⟨6, .data⟩ (by simp) rfl)
        · rcases hi with rfl | rfl | rfl | rfl | rfl | rfl | rfl | rfl | rfl | rfl | rfl | rfl | rfl | rfl | rfl | rfl | rfl | rfl | rfl | rfl
          all_goals first | exact absurd rfl hij | (simp only at hE h ⊢; first | exact getkV h (by decide) | (obtain ⟨g, e, h2⟩ := h; exact ⟨g, getkV e (by decide), h2.below hE h2.lt⟩)) | exact absurd rfl (hdep _ rfl ⟨7, .data⟩ (by simp) rfl)
        · rcases hi with rfl | rfl | rfl | rfl | rfl | rfl | rfl | rfl | rfl | rfl | rfl | rfl | rfl | rfl | rfl | rfl | rfl | rfl | rfl | rfl
          all_goals first | exact absurd rfl hij | (simp only at hE h ⊢; first | exact getkV h (by decide) | (obtain ⟨g, e, h2⟩ := h; exact ⟨g, getkV e (by decide), h2.below hE h2.lt⟩)) | exact absurd rfl (hdep _ rfl ⟨8, .data⟩ (by simp) rfl)
        · rcases hi with rfl | rfl | rfl | rfl | rfl | rfl | rfl | rfl | rfl | rfl | rfl | rfl | rfl | rfl | rfl | rfl | rfl | rfl | rfl | rfl
          all_goals first | exact absurd rfl hij | (simp only at hE h ⊢; first | exact getkV h (by decide) | (obtain ⟨g, e, h2⟩ := h; exact ⟨g, getkV e (by decide), h2.below hE h2.lt⟩)) | exact absurd rfl (hdep _ rfl ⟨9, .data⟩ (by simp) rfl)
        · rcases hi with rfl | rfl | rfl | rfl | rfl | rfl | rfl | rfl | rfl | rfl | rfl | rfl | rfl | rfl | rfl | rfl | rfl | rfl | rfl | rfl
          all_goals first | exact absurd rfl hij | (simp only at hE h ⊢; first | exact getkV h (by decide) | (obtain ⟨g, e, h2⟩ := h; exact ⟨g, getkV e (by decide), h2.below hE h2.lt⟩)) | exact absurd rfl (hdep _ rfl ⟨10, .data⟩ (by simp) rfl)
        · rcases hi with rfl | rfl | rfl | rfl | rfl | rfl | rfl | rfl | rfl | rfl | rfl | rfl | rfl | rfl | rfl | rfl | rfl | rfl | rfl | rfl
          all_goals first | exact absurd rfl hij | (simp only at hE h ⊢; first | exact getkV h (by decide) | (obtain ⟨g, e, h2⟩ := h; exact ⟨g, getkV e (by decide), h2.below hE h2.lt⟩)) | exact absurd rfl (hdep _ rfl ⟨11, .data⟩ (by simp) rfl)
        · rcases hi with rfl | rfl | rfl | rfl | rfl | rfl | rfl | rfl | rfl | rfl | rfl | rfl | rfl | rfl | rfl | rfl | rfl | rfl | rfl | rfl
          all_goals first | exact absurd rfl hij | (simp only at hE h ⊢; first | exact getkV h (by decide) | (obtain ⟨g, e, h2⟩ := h; exact ⟨g, getkV e (by decide), h2.below hE h2.lt⟩)) | exact absurd rfl (hdep _ rfl ⟨12, .data⟩ (by simp) rfl)
        · rcases hi with rfl | rfl | rfl | rfl | rfl | rfl | rfl | rfl | rfl | rfl | rfl | rfl | rfl | rfl | rfl | rfl | rfl | rfl | rfl | rfl
          all_goals first | exact absurd rfl hij | (simp only at hE h ⊢; first | exact getkV h (by decide) | (obtain ⟨g, e, h2⟩ := h; exact ⟨g, getkV e (by decide), h2.below hE h2.lt⟩)) | exact absurd rfl (hdep _ rfl ⟨13, .data⟩ (by simp) rfl)
        · rcases hi with rfl | rfl | rfl | rfl | rfl | rfl | rfl | rfl | rfl | rfl | rfl | rfl | rfl | rfl | rfl | rfl | rfl | rfl | rfl | rfl
          all_goals first | exact absurd rfl hij | (simp only at hE h ⊢; first | exact getkV h (by decide) | (obtain ⟨g, e, h2⟩ := h; exact ⟨g, getkV e (by decide), h2.below hE h2.lt⟩)) | exact absurd rfl (hdep _ rfl ⟨14, .data⟩ (by simp) rfl)
        · rcases hi with rfl | rfl | rfl | rfl | rfl | rfl | rfl | rfl | rfl | rfl | rfl | rfl | rfl | rfl | rfl | rfl | rfl | rfl | rfl | rfl
          all_goals first | exact absurd rfl hij | (simp only at hE h ⊢; first | exact getkV h (by decide) | (obtain ⟨g, e, h2⟩ := h; exact ⟨g, getkV e (by decide), h2.below hE h2.lt⟩)) | exact absurd rfl (hdep _ rfl ⟨15, .data⟩ (by simp) rfl)
        · rcases hi with rfl | rfl | rfl | rfl | rfl | rfl | rfl | rfl | rfl | rfl | rfl | rfl | rfl | rfl | rfl | rfl | rfl | rfl | rfl | rfl
          all_goals first | exact absurd rfl hij | (simp only at hE h ⊢; first | exact getkV h (by decide) | (obtain ⟨g, e, h2⟩ := h; exact ⟨g, getkV e (by decide), h2.below hE h2.lt⟩)) | exact absurd rfl (hdep _ rfl ⟨16, .data⟩ (by simp) rfl)
        · rcases hi with rfl | rfl | rfl | rfl | rfl | rfl | rfl | rfl | rfl | rfl | rfl | rfl | rfl | rfl | rfl | rfl | rfl | rfl | rfl | rfl
          all_goals first | exact absurd rfl hij | (simp only at hE h ⊢; first | exact getkV h (by decide) | (obtain ⟨g, e, h2⟩ := h; exact ⟨g, getkV e (by decide), h2.below hE h2.lt⟩)) | exact absurd rfl (hdep _ rfl ⟨17, .data⟩ (by simp) rfl)
        · rcases hi with rfl | rfl | rfl | rfl | rfl | rfl | rfl | rfl | rfl | rfl | rfl | rfl | rfl | rfl | rfl | rfl | rfl | rfl | rfl | rfl
          all_goals first | exact absurd rfl hij | (simp only at hE h ⊢; first | exact getkV h (by decide) | (obtain ⟨g, e, h2⟩ := h; exact ⟨g, getkV e (by decide), h2.below hE h2.lt⟩)) | exact absurd rfl (hdep _ rfl ⟨18, .data⟩ (by simp) rfl)
        · rcases hi with rfl | rfl | rfl | rfl | rfl | rfl | rfl | rfl | rfl | rfl | rfl | rfl | rfl | rfl | rfl | rfl | rfl | rfl | rfl | rfl
          all_goals first | exact absurd rfl hij | (simp only at hE h ⊢; first | exact getkV h (by decide) | (obtain ⟨g, e, h2⟩ := h; exact ⟨g, getkV e (by decide), h2.below hE h2.lt⟩)) | exact absurd rfl (hdep _ rfl ⟨19, .data⟩ (by simp) rfl)
      · intro j o hj ho a' w' hC hsame hdep
        have hz : wr.heap.size ≤ w'.heap.size := hC.size
        simp only [List.mem_cons, List.not_mem_nil, or_false] at hj
        rcases hj with rfl | rfl | rfl | rfl | rfl | rfl | rfl | rfl | rfl | rfl | rfl | rfl | rfl | rfl | rfl | rfl | rfl | rfl | rfl | rfl
        all_goals obtain rfl := Option.some.inj ho
        · have hss : a'.tmps.getD 7 undef = .pointer (some ⟨qq, 0, none⟩) := hsame 7 (by rfl)
          refine wp_val (w2 := w') (.pointer (some ⟨qq, 3, none⟩)) (fun K hK => ?_) ⟨_, rfl, hC, Below.refl _ _, fun b hb hb2 => hb 21 rfl⟩
          clear hsame hdep
          unfold Oper.wp
          simp [execOp, Act.eval, go_sem, hss]
          exact hK
        · have hss : a'.tmps.getD 21 undef = .pointer (some ⟨qq, 3, none⟩) := hdep ⟨0, .data⟩ (by simp) rfl
          have zz : ∀ o, w'.cell? ⟨qq, o, none⟩ = _ := fun o => (hC.cell (p := ⟨qq, o, none⟩) (by show qq < wr.heap.size; omega)).trans (cq o)
          refine wp_val (w2 := w') (.slice D sg.length q) (fun K hK => ?_) ⟨_, rfl, hC, Below.refl _ _, fun b hb hb2 => hb 22 rfl⟩
          clear hsame hdep
          unfold Oper.wp
          simp [execOp, Act.eval, go_sem, hss, zz]
          exact hK
        · have hss : a'.tmps.getD 2 undef = .slice (some ⟨b0, off, none⟩) ids.length d := hsame 2 (by rfl)
          refine wp_val (w2 := w') (.slice (some ⟨b0, off, none⟩) ids.length d) (fun K hK => ?_) ⟨_, rfl, hC, Below.refl _ _, fun b hb hb2 => hb 23 rfl⟩
          clear hsame hdep
          unfold Oper.wp
          simp [execOp, Act.eval, go_sem, hss]
          exact hK
        · have hss : a'.tmps.getD 8 undef = .int .i64 k := hsame 8 (by rfl)
          refine wp_val (w2 := w') (.int .i64 k) (fun K hK => ?_) ⟨_, rfl, hC, Below.refl _ _, fun b hb hb2 => hb 24 rfl⟩
          clear hsame hdep
          unfold Oper.wp
          simp [execOp, Act.eval, go_sem, hss]
          exact hK
        · have e1 : a'.tmps.getD 23 undef = .slice (some ⟨b0, off, none⟩) ids.length d := hdep ⟨2, .data⟩ (by simp) rfl
          have e2 : a'.tmps.getD 24 undef = .int .i64 k := hdep ⟨3, .data⟩ (by simp) rfl
          refine wp_val (w2 := w') (.pointer (some ⟨b0, off + k, none⟩)) (fun K hK => ?_) ⟨_, rfl, hC, Below.refl _ _, fun b hb hb2 => hb 25 rfl⟩
          clear hsame hdep
          unfold Oper.wp
          simp [execOp, Act.eval, go_sem, e1, e2, k0, k1]
          exact hK
        · have hss : a'.tmps.getD 25 undef = .pointer (some ⟨b0, off + k, none⟩) := hdep ⟨4, .data⟩ (by simp) rfl
          have zz : w'.cell? ⟨b0, off + k, none⟩ = some (.int .i64 x) := (hC.cell (p := ⟨b0, off + k, none⟩) (by show b0 < wr.heap.size; omega)).trans c0
          refine wp_val (w2 := w') (.int .i64 x) (fun K hK => ?_) ⟨_, rfl, hC, Below.refl _ _, fun b hb hb2 => hb 26 rfl⟩
          clear hsame hdep
          unfold Oper.wp
          simp [execOp, Act.eval, go_sem, hss, zz]
          exact hK
        · have hss : a'.tmps.getD 2 undef = .slice (some ⟨b0, off, none⟩) ids.length d := hsame 2 (by rfl)
          refine wp_val (w2 := w') (.slice (some ⟨b0, off, none⟩) ids.length d) (fun K hK => ?_) ⟨_, rfl, hC, Below.refl _ _, fun b hb hb2 => hb 27 rfl⟩
          clear hsame hdep
          unfold Oper.wp
          simp [execOp, Act.eval, go_sem, hss]
          exact hK
        · have hss : a'.tmps.getD 8 undef = .int .i64 k := hsame 8 (by rfl)
          refine wp_val (w2 := w') (.int .i64 k) (fun K hK => ?_) ⟨_, rfl, hC, Below.refl _ _, fun b hb hb2 => hb 28 rfl⟩
          clear hsame hdep
          unfold Oper.wp
          simp [execOp, Act.eval, go_sem, hss]
          exact hK
        · have e1 : a'.tmps.getD 27 undef = .slice (some ⟨b0, off, none⟩) ids.length d := hdep ⟨6, .data⟩ (by simp) rfl
          have e2 : a'.tmps.getD 28 undef = .int .i64 k := hdep ⟨7, .data⟩ (by simp) rfl
          refine wp_val (w2 := w') (.pointer (some ⟨b0, off + k, none⟩)) (fun K hK => ?_) ⟨_, rfl, hC, Below.refl _ _, fun b hb hb2 => hb 29 rfl⟩
          clear hsame hdep
          unfold Oper.wp
          simp [execOp, Act.eval, go_sem, e1, e2, k0, k1]
          exact hK
        · have hss : a'.tmps.getD 29 undef = .pointer (some ⟨b0, off + k, none⟩) := hdep ⟨8, .data⟩ (by simp) rfl
          have zz : w'.cell? ⟨b0, off + k, none⟩ = some (.int .i64 x) := (hC.cell (p := ⟨b0, off + k, none⟩) (by show b0 < wr.heap.size; omega)).trans c0
          refine wp_val (w2 := w') (.int .i64 x) (fun K hK => ?_) ⟨_, rfl, hC, Below.refl _ _, fun b hb hb2 => hb 30 rfl⟩
          clear hsame hdep
          unfold Oper.wp
          simp [execOp, Act.eval, go_sem, hss, zz]
          exact hK
        · have hss : a'.tmps.getD 7 undef = .pointer (some ⟨qq, 0, none⟩) := hsame 7 (by rfl)
          have zz : ∀ o, w'.cell? ⟨qq, o, none⟩ = _ := fun o => (hC.cell (p := ⟨qq, o, none⟩) (by show qq < wr.heap.size; omega)).trans (cq o)
          refine wp_val (w2 := w') (.agg #[.int .i64 h.h, .int .i64 r, .string hid, .slice D sg.length q]) (fun K hK => ?_) ⟨_, rfl, hC, Below.refl _ _, fun b hb hb2 => hb 31 rfl⟩
          clear hsame hdep
          unfold Oper.wp
          simp [execOp, Act.eval, go_sem, hss, zz]
          exact hK
        · have hss : a'.tmps.getD 2 undef = .slice (some ⟨b0, off, none⟩) ids.length d := hsame 2 (by rfl)
          refine wp_val (w2 := w') (.slice (some ⟨b0, off, none⟩) ids.length d) (fun K hK => ?_) ⟨_, rfl, hC, Below.refl _ _, fun b hb hb2 => hb 32 rfl⟩
          clear hsame hdep
          unfold Oper.wp
          simp [execOp, Act.eval, go_sem, hss]
          exact hK
        · have hss : a'.tmps.getD 8 undef = .int .i64 k := hsame 8 (by rfl)
          refine wp_val (w2 := w') (.int .i64 k) (fun K hK => ?_) ⟨_, rfl, hC, Below.refl _ _, fun b hb hb2 => hb 33 rfl⟩
          clear hsame hdep
          unfold Oper.wp
          simp [execOp, Act.eval, go_sem, hss]
          exact hK
        · have e1 : a'.tmps.getD 32 undef = .slice (some ⟨b0, off, none⟩) ids.length d := hdep ⟨11, .data⟩ (by simp) rfl
          have e2 : a'.tmps.getD 33 undef = .int .i64 k := hdep ⟨12, .data⟩ (by simp) rfl
          refine wp_val (w2 := w') (.pointer (some ⟨b0, off + k, none⟩)) (fun K hK => ?_) ⟨_, rfl, hC, Below.refl _ _, fun b hb hb2 => hb 34 rfl⟩
          clear hsame hdep
          unfold Oper.wp
          simp [execOp, Act.eval, go_sem, e1, e2, k0, k1]
          exact hK
        · have hss : a'.tmps.getD 34 undef = .pointer (some ⟨b0, off + k, none⟩) := hdep ⟨13, .data⟩ (by simp) rfl
          have zz : w'.cell? ⟨b0, off + k, none⟩ = some (.int .i64 x) := (hC.cell (p := ⟨b0, off + k, none⟩) (by show b0 < wr.heap.size; omega)).trans c0
          refine wp_val (w2 := w') (.int .i64 x) (fun K hK => ?_) ⟨_, rfl, hC, Below.refl _ _, fun b hb hb2 => hb 35 rfl⟩
          clear hsame hdep
          unfold Oper.wp
          simp [execOp, Act.eval, go_sem, hss, zz]
          exact hK
        · have e1 : a'.tmps.getD 31 undef = .agg #[.int .i64 h.h, .int .i64 r, .string hid, .slice D sg.length q] := hdep ⟨10, .data⟩ (by simp) rfl
          have e2 : a'.tmps.getD 35 undef = .int .i64 x := hdep ⟨14, .data⟩ (by simp) rfl
          refine wp_call (fun u w2 => u = .agg #[.int .i64 h.h, .int .i64 r, .int .i64 2, .string hid, .int .i64 x] ∧ Below w'.heap.size w' w2) (fun K hK => ?_) ?_
          · clear hsame hdep
            unfold Oper.wp
            simp [Act.eval, e1, e2, go_sem]
            refine ((HLV _).out).mono ?_
            rintro e w3 ⟨rfl, hb3⟩
            exact hK _ _ ⟨rfl, hb3⟩
          · rintro u w3 ⟨rfl, hb3⟩
            exact ⟨_, rfl, hC.trans (hb3.mono hz), hb3, fun b hb _ => hb 36 rfl⟩
        · have e1 : a'.tmps.getD 36 undef = .agg #[.int .i64 h.h, .int .i64 r, .int .i64 2, .string hid, .int .i64 x] := hdep ⟨15, .data⟩ (by simp) rfl
          refine wp_call (fun u w2 => u = .string dgb ∧ Below w'.heap.size w' w2) (fun K hK => ?_) ?_
          · clear hsame hdep
            unfold Oper.wp
            simp [Act.eval, e1, go_sem]
            refine ((HDG _).out).mono ?_
            rintro e w3 ⟨rfl, hb3⟩
            exact hK _ _ ⟨rfl, hb3⟩
          · rintro u w3 ⟨rfl, hb3⟩
            exact ⟨_, rfl, hC.trans (hb3.mono hz), hb3, fun b hb _ => hb 37 rfl⟩
        · have e1 : a'.tmps.getD 30 undef = .int .i64 x := hdep ⟨9, .data⟩ (by simp) rfl
          have e2 : a'.tmps.getD 37 undef = .string dgb := hdep ⟨16, .data⟩ (by simp) rfl
          refine wp_call (fun u w2 => u = .string sgb ∧ Below w'.heap.size w' w2) (fun K hK => ?_) ?_
          · clear hsame hdep
            unfold Oper.wp
            simp [Act.eval, e1, e2, go_sem]
            refine ((HSG _).out).mono ?_
            rintro e w3 ⟨rfl, hb3⟩
            exact hK _ _ ⟨rfl, hb3⟩
          · rintro u w3 ⟨rfl, hb3⟩
            exact ⟨_, rfl, hC.trans (hb3.mono hz), hb3, fun b hb _ => hb 38 rfl⟩
        · have e1 : a'.tmps.getD 26 undef = .int .i64 x := hdep ⟨5, .data⟩ (by simp) rfl
          have e2 : a'.tmps.getD 38 undef = .string sgb := hdep ⟨17, .data⟩ (by simp) rfl
          have e1q := e1
          have e2q := e2
          rw [Array.getD_eq_getD_getElem?] at e1q e2q
          refine wp_val (w2 := w') (.agg #[.int .i64 x, .string sgb]) (fun K hK => ?_) ⟨_, rfl, hC, Below.refl _ _, fun b hb hb2 => hb 39 rfl⟩
          clear hsame hdep
          unfold Oper.wp
          simp [execOp, Act.eval, go_sem, e1q, e2q]
          exact hK
        · have e1 : a'.tmps.getD 39 undef = .agg #[.int .i64 x, .string sgb] := hdep ⟨18, .data⟩ (by simp) rfl
          have e1q := e1
          rw [Array.getD_eq_getD_getElem?] at e1q
          refine wp_val (w2 := w'.alloc (.cells #[.int .i64 x, .string sgb] 91)) (.slice (some ⟨w'.heap.size, 0, none⟩) 1 1) (fun K hK => ?_) ⟨_, rfl, hC.alloc hz _, (Below.refl _ _).alloc (Nat.le_refl _) _, fun b hb hb2 => ⟨w'.heap.size, hb 40 rfl, heap_alloc_new w' _⟩⟩
          clear hsame hdep
          unfold Oper.wp
          simp [execOp, Act.eval, go_sem, e1q]
          exact hK
      · intro a' w' hC ha hP
        obtain ⟨g, e40, hbg⟩ := hP 19 (by simp)
        have e22 : a'.tmps.getD 22 undef = .slice D sg.length q := hP 1 (by simp)
        clear hP
        simp only [coreOps, List.filterMap_cons, List.filterMap_nil, List.getElem?_cons_zero, List.getElem?_cons_succ, fillA, slotOf, Act.put, List.setIfInBounds_toArray, List.set_cons_zero, List.set_cons_succ, e40, e22] at ha
        generalize a'.tmps.getD 21 undef = u21 at ha
        generalize a'.tmps.getD 23 undef = u23 at ha
        generalize a'.tmps.getD 24 undef = u24 at ha
        generalize a'.tmps.getD 25 undef = u25 at ha
        generalize a'.tmps.getD 26 undef = u26 at ha
        generalize a'.tmps.getD 27 undef = u27 at ha
        generalize a'.tmps.getD 28 undef = u28 at ha
        generalize a'.tmps.getD 29 undef = u29 at ha
        generalize a'.tmps.getD 30 undef = u30 at ha
        generalize a'.tmps.getD 31 undef = u31 at ha
        generalize a'.tmps.getD 32 undef = u32 at ha
        generalize a'.tmps.getD 33 undef = u33 at ha
        generalize a'.tmps.getD 34 undef = u34 at ha
        generalize a'.tmps.getD 35 undef = u35 at ha
        generalize a'.tmps.getD 36 undef = u36 at ha
        generalize a'.tmps.getD 37 undef = u37 at ha
        generalize a'.tmps.getD 38 undef = u38 at ha
        generalize a'.tmps.getD 39 undef = u39 at ha
        subst ha
        have HOW : OwnL csigC 2 91 w' (qq + 1) w'.heap.size D sg.length q sg := (HO.out.below hC (Nat.le_refl _)).wide (Nat.le_refl _) hC.size
        show wpAny _ _ _ _ 3 _ _ _
        refine wpAny_ready (rs := [20]) (by kernel_rfl) (by simp) ?_
        refine AllReady.cons rfl (fun K hK => ?_) AllReady.nil
        refine step_app_rd _ rfl _ _ _ rfl (qq + 1) 91 i0 _ 2 24 Tryz.underlying31 hi0 hz0 hz1 hz2 rfl (by decide) (.slice D sg.length q) sg.length (sg.flatMap csigC) rfl (by exact HOW.owns csigC_len) w'.heap.size _ 1 1 (csigC ⟨x, sgb⟩) rfl (by exact Rd.ofSig hbg) (csigC_one1 _ _) (by unfold maxLen; omega) (by omega) (by have := hC.size; omega) ?_
        intro vq w5 hown hg hat
        have e5 : sg.flatMap csigC ++ csigC ⟨x, sgb⟩ = (sg ++ [(⟨x, sgb⟩ : CSigD)]).flatMap csigC := by rw [List.flatMap_append]; simp
        rw [e5] at hown
        obtain ⟨A5, c5, rfl, ho5⟩ := OwnL.of_own (f := csigC) (n := sg.length + 1) (l := sg ++ [(⟨x, sgb⟩ : CSigD)]) (by simp) hown
        have hgc : Chg (qq + 1) w'.heap.size w' w5 := grown_chg hg fun g e => HOW.block g e
        have hbq5 : Blk w5 qq 33 #[.int .i64 h.h, .int .i64 r, .string hid, .slice D sg.length q] := (hgc.block qq (by have := hC.size; omega) (.inl (by omega))).trans (HQ.out.below hC hqr)
        have hbr5 : Blk w5 (w.heap.size + 1) 33 #[.int .i64 0, .int .i64 0, .string ⟨#[]⟩, .slice none 0 0] := (hgc.block (w.heap.size + 1) (by have := hC.size; omega) (.inl (by omega))).trans (HR.out.below hC hrr)
        have hgs := hgc.size
        have hB5 : Below w.heap.size w w5 := (HB.out.trans (hC.mono hbz)).trans (hgc.below (B := w.heap.size) (by omega) (by have := hC.size; omega))
        clear hown hg hat e5
        have f := hbq5.cell
        have ff := hbq5.frozen
        have flt := hbq5.lt
        refine hK _ _ ?_
        clear hK K
        refine wpAny_ready (rs := [21]) (by kernel_rfl) (by simp) ?_
        refine AllReady.cons rfl (fun K hK => ?_) AllReady.nil
        go_simp
        refine hK _ _ ?_
        clear hK K
        refine wpAny_ready (rs := [22]) (by kernel_rfl) (by simp) ?_
        refine AllReady.cons rfl (fun K hK => ?_) AllReady.nil
        go_simp
        refine hK _ _ ?_
        clear hK K
        refine wpAny_done (by kernel_rfl) ?_ _
        go_wp2_with fail
        go_roundw
        case measure => simp [intOf]; omega
        case rel =>
        refine ⟨k + 1, sg ++ [⟨x, sgb⟩], A5, c5, by omega, by simp; omega, by go_num, ?_, hbr5.far (by show _ ≠ qq; omega) _, ?_, ?_⟩
        · have h := hbq5.set_ 3 (.slice A5 (sg.length + 1) c5)
          simp only [List.setIfInBounds_toArray, List.set_cons_zero, List.set_cons_succ] at h
          simpa using h
        · have ho6 : OwnL csigC 2 91 (w5.setCell ⟨qq, 3, none⟩ (.slice A5 (sg.length + 1) c5)) (qq + 1) (w5.setCell ⟨qq, 3, none⟩ (.slice A5 (sg.length + 1) c5)).heap.size A5 (sg.length + 1) c5 (sg ++ [⟨x, sgb⟩]) := (ho5.chg (lo' := qq) (hi' := qq + 1) (by (repeat (first | with_reducible refine Chg.setCell ?_ (by first | exact Nat.le_refl _ | (simp; done) | (simp; omega)) (by first | (simp; done) | (simp; omega)) _ | with_reducible refine Chg.alloc ?_ _ | with_reducible refine Chg.drew ?_)); (with_reducible exact Chg.refl _ _ _)) (.inr (by omega))).wide (Nat.le_refl _) (by simp)
          simpa using ho6
        · refine hB5.trans ?_
          (repeat (first | with_reducible refine Below.setCell ?_ (by first | exact Nat.le_refl _ | (simp; done) | (simp; omega)) _ | with_reducible refine Below.alloc ?_ (by first | exact Nat.le_refl _ | (simp; done) | (simp; omega)) _ | with_reducible refine Below.drew ?_)); (with_reducible exact Below.refl _ _)
    · obtain rfl : k = ids.length := by omega
      have xr := HR.out.cell
      have fr := HR.out.frozen
      go_wp2_with fail
      refine bodyPost_ret (v := .agg #[.int .i64 h.h, .int .i64 r, .string (headIdB h), .slice D sg.length q]) (by simp [results, Tryz.results65, go_sem, xr]) rfl ⟨sg, D, q, rfl, ?_, hsk, ?_⟩
      · refine (OwnL.chg (lo' := w.heap.size + 1) (hi' := w.heap.size + 2) HO.out ?_ (.inr (by omega))).wide (by omega) (by simp)
        (repeat (first | with_reducible refine Chg.setCell ?_ (by first | exact Nat.le_refl _ | (simp; done) | (simp; omega)) (by first | (simp; done) | (simp; omega)) _ | with_reducible refine Chg.alloc ?_ _ | with_reducible refine Chg.drew ?_)); (with_reducible exact Chg.refl _ _ _)
      · refine HB.out.trans ?_
        (repeat (first | with_reducible refine Below.setCell ?_ (by first | exact Nat.le_refl _ | (simp; done) | (simp; omega)) _ | with_reducible refine Below.alloc ?_ (by first | exact Nat.le_refl _ | (simp; done) | (simp; omega)) _ | with_reducible refine Below.drew ?_)); (with_reducible exact Below.refl _ _)
end Go.Proofs.YtelnnegfkdfpiaaGreatDoor

namespace Go.Proofs.YtelnnegfkdfpiaaGreatDoor
open Go.RowKit

/-- a header behind an anchor, the validators behind it, a commit -/
def DrewNext (cb : Nat) (A : Option Addr) (n c : Nat) (w : World) (e : Ending) (w' : World) : Prop :=
  ∃ (h : HeaderD) (nl : List ValD) (B : Option Addr) (d : Nat) (p : ComD) (sg : List CSigD) (D : Option Addr) (q : Nat), e = .returned (.tuple #[.agg #[.int .i64 h.h, .int .i64 h.t, .string h.last, .string h.vals, .string h.next, .string h.data], .slice B nl.length d, .agg #[.int .i64 p.h, .int .i64 p.r, .string p.id, .slice D sg.length q]]) ∧
    OwnL valC 2 84 w' w.heap.size w'.heap.size B nl.length d nl ∧ nl.length ≤ 8 ∧ OwnL csigC 2 91 w' w.heap.size w'.heap.size D sg.length q sg ∧ sg.length ≤ 100 ∧ Chg cb (cb + 1) w w' ∧ Cur w' cb A n c
theorem Rd.oneInt (w : World) (x : Int) (g : Nat) (hg : g = w.heap.size) : Rd (w.alloc (.cells #[.int .i64 x] 3)) (w.heap.size + 1) (some ⟨g, 0, none⟩) 1 1 1 (intC x) := by
  subst hg
  refine ⟨rfl, Nat.le_refl _, by unfold maxLen; omega, fun _ => ⟨w.heap.size, 0, rfl, by omega, fun j hj => ?_⟩⟩
  have hb : Blk (w.alloc (.cells #[.int .i64 x] 3)) w.heap.size 3 #[.int .i64 x] := heap_alloc_new w _
  rw [hb.cell, Nat.zero_add]; simp [intC]
theorem intC_one1 (x : Int) : ∀ u ∈ intC x, u.oneCell' = true := by
  intro u hu
  simp only [intC, List.mem_cons, List.not_mem_nil, or_false] at hu
  subst hu; rfl

set_option maxRecDepth 100000 in
set_option maxHeartbeats 16000000 in
theorem l11Next_any (cb : Nat) (A : Option Addr) (n c : Nat) (s : HeaderD) (Ba : Option Addr) (da lo : Nat) (l : List ValD) (w : World) (hc : Cur w cb A n c) (ho : OwnL valC 2 84 w lo w.heap.size Ba l.length da l) (hlo : cb < lo) (hll : l.length ≤ 8) :
    Calls Tryz.prog 33 #[.pointer (some ⟨cb, 0, none⟩), .agg #[.int .i64 s.h, .int .i64 s.t, .string s.last, .string s.vals, .string s.next, .string s.data, .slice Ba l.length da]] w (DrewNext cb A n c w) := by
  obtain ⟨i0, hi0, hz0, hz1, hz2⟩ := info_parts infoInt
  have HC := Lib.hid hc
  have hlt := hc.lt
  have HO0 := Lib.hid ho
  clear hc ho
  go_enter Tryz.func33, Tryz.ntmps33
  go_upto_region 1 with fail
  obtain ⟨v1, hwb⟩ : ∃ zq, zq = ((w.alloc (.cells #[.int .i64 s.h, .int .i64 s.t, .string s.last, .string s.vals, .string s.next, .string s.data, .slice Ba l.length da] 30)).alloc (.cells #[.int .i64 0, .int .i64 0, .string ⟨#[]⟩, .string ⟨#[]⟩, .string ⟨#[]⟩, .string ⟨#[]⟩] 27)).alloc (.cells #[.int .i64 0, .int .i64 0, .string ⟨#[]⟩, .slice none 0 0] 33) := ⟨_, rfl⟩
  rw [← hwb]
  have hxXA : Blk v1 w.heap.size 30 #[.int .i64 s.h, .int .i64 s.t, .string s.last, .string s.vals, .string s.next, .string s.data, .slice Ba l.length da] := by rw [hwb]; have h := heap_alloc_new w (.cells #[.int .i64 s.h, .int .i64 s.t, .string s.last, .string s.vals, .string s.next, .string s.data, .slice Ba l.length da] 30); (try simp only [World.size_alloc] at h); exact (Blk.alloc (Blk.alloc h _) _)
  have hxRH : Blk v1 (w.heap.size + 1) 27 #[.int .i64 0, .int .i64 0, .string ⟨#[]⟩, .string ⟨#[]⟩, .string ⟨#[]⟩, .string ⟨#[]⟩] := by rw [hwb]; have h := heap_alloc_new (w.alloc (.cells #[.int .i64 s.h, .int .i64 s.t, .string s.last, .string s.vals, .string s.next, .string s.data, .slice Ba l.length da] 30)) (.cells #[.int .i64 0, .int .i64 0, .string ⟨#[]⟩, .string ⟨#[]⟩, .string ⟨#[]⟩, .string ⟨#[]⟩] 27); (try simp only [World.size_alloc] at h); exact (Blk.alloc h _)
  have hxRC : Blk v1 (w.heap.size + 1 + 1) 33 #[.int .i64 0, .int .i64 0, .string ⟨#[]⟩, .slice none 0 0] := by rw [hwb]; have h := heap_alloc_new ((w.alloc (.cells #[.int .i64 s.h, .int .i64 s.t, .string s.last, .string s.vals, .string s.next, .string s.data, .slice Ba l.length da] 30)).alloc (.cells #[.int .i64 0, .int .i64 0, .string ⟨#[]⟩, .string ⟨#[]⟩, .string ⟨#[]⟩, .string ⟨#[]⟩] 27)) (.cells #[.int .i64 0, .int .i64 0, .string ⟨#[]⟩, .slice none 0 0] 33); (try simp only [World.size_alloc] at h); exact h
  have hg : Chg cb (cb + 1) w v1 := by rw [hwb]; exact ((((Chg.refl cb (cb + 1) w).alloc _).alloc _).alloc _)
  have hu : Cur v1 cb A n c := by rw [hwb]; exact (((HC.out.alloc _).alloc _).alloc _)
  have hb0 : Below w.heap.size w v1 := by rw [hwb]; exact (Below.alloc (Below.alloc (Below.alloc (Below.refl _ _) (by first | exact Nat.le_refl _ | (simp; done) | (simp; omega)) _) (by first | exact Nat.le_refl _ | (simp; done) | (simp; omega)) _) (by first | exact Nat.le_refl _ | (simp; done) | (simp; omega)) _)
  clear hwb
  have hs1 := hg.size
  have XA1 := Lib.hid hxXA
  have ltXA := hxXA.lt
  clear hxXA
  have RH1 := Lib.hid hxRH
  have ltRH := hxRH.lt
  clear hxRH
  have RC1 := Lib.hid hxRC
  have ltRC := hxRC.lt
  clear hxRC
  have CH1 := Lib.hid hg
  have U1 := Lib.hid hu
  have BW1 := Lib.hid hb0
  clear hg hu hb0
  have OA1 := Lib.hid (HO0.out.below BW1.out (Nat.le_refl _))
  clear HO0 BW1 HC
  go_wp2_with fail
  refine (l6Some_any cb A n c _ U1.out).mono ?_
  rintro e v2 ⟨nl, B, d, rfl, ho, n0, n1, hg, hu⟩
  have HO := Lib.hid ho
  clear ho
  have hs2 := hg.size
  have XA2 := Lib.hid (show Blk _ _ _ _ from (hg.block _ XA1.out.lt (by omega)).trans XA1.out)
  have RH2 := Lib.hid (show Blk _ _ _ _ from (hg.block _ RH1.out.lt (by omega)).trans RH1.out)
  have RC2 := Lib.hid (show Blk _ _ _ _ from (hg.block _ RC1.out.lt (by omega)).trans RC1.out)
  have CH2 := Lib.hid (CH1.out.trans hg)
  have U2 := Lib.hid (hu)
  have OA2 := Lib.hid (OA1.out.chg hg (by omega))
  clear hg hu XA1 RH1 RC1 CH1 U1 OA1
  have ON2 := HO
  clear HO
  have HCUR := U2
  have hcw : cb < v2.heap.size := by omega
  have ceXA := XA2.out.cell
  have lbXA := XA2.out.lt
  go_upto_region 2 with fail
  go_cut [8] (fun sp wx => ∃ (qq : Nat) (hd : HeaderD), sp = .pointer (some ⟨qq, 0, none⟩) ∧ v2.heap.size ≤ qq ∧ Blk wx qq 27 #[.int .i64 hd.h, .int .i64 hd.t, .string hd.last, .string hd.vals, .string hd.next, .string hd.data] ∧ Chg cb (cb + 1) v2 wx ∧ Cur wx cb A n c)
  case first =>
    refine wp_region_core3 [0, 1, 2, 3, 4, 5, 6, 7, 8, 9, 10, 11, 12, 13, 14, 15, 16, 17, 18, 19, 20, 21, 22] (fun w => Chg cb (cb + 1) v2 w ∧ Cur w cb A n c) (fun j wa wb => match j with | _ => Chg cb (cb + 1) wa wb) (fun i bz wz => match i with
      | 0 => bz.tmps.getD 13 undef = .pointer (some ⟨w.heap.size, 0, none⟩)
      | 1 => bz.tmps.getD 14 undef = .pointer (some ⟨w.heap.size, 0, none⟩)
      | 2 => bz.tmps.getD 15 undef = .int .i64 s.h
      | 3 => ∃ x : Int, bz.tmps.getD 16 undef = .int .i64 x
      | 4 => bz.tmps.getD 17 undef = .pointer (some ⟨w.heap.size, 0, none⟩)
      | 5 => bz.tmps.getD 18 undef = .pointer (some ⟨w.heap.size, 1, none⟩)
      | 6 => bz.tmps.getD 19 undef = .int .i64 s.t
      | 7 => ∃ x : Int, bz.tmps.getD 20 undef = .int .i64 x
      | 8 => bz.tmps.getD 21 undef = .pointer (some ⟨cb, 0, none⟩)
      | 9 => ∃ x : Int, bz.tmps.getD 22 undef = .int .i64 x
      | 10 => ∃ x : Int, bz.tmps.getD 23 undef = .int .i64 x
      | 11 => bz.tmps.getD 24 undef = .pointer (some ⟨w.heap.size, 0, none⟩)
      | 12 => bz.tmps.getD 25 undef = .agg #[.int .i64 s.h, .int .i64 s.t, .string s.last, .string s.vals, .string s.next, .string s.data]
      | 13 => bz.tmps.getD 26 undef = .string (headIdB s)
      | 14 => bz.tmps.getD 27 undef = .pointer (some ⟨w.heap.size, 0, none⟩)
      | 15 => bz.tmps.getD 28 undef = .pointer (some ⟨w.heap.size, 4, none⟩)
      | 16 => bz.tmps.getD 29 undef = .string s.next
      | 17 => bz.tmps.getD 30 undef = .slice B nl.length d
      | 18 => bz.tmps.getD 31 undef = .string (valsHashB nl)
      | 19 => bz.tmps.getD 32 undef = .pointer (some ⟨cb, 0, none⟩)
      | 20 => ∃ t : ByteArray, bz.tmps.getD 33 undef = .string t
      | 21 => ∃ hd : HeaderD, bz.tmps.getD 34 undef = .agg #[.int .i64 hd.h, .int .i64 hd.t, .string hd.last, .string hd.vals, .string hd.next, .string hd.data]
      | 22 => ∃ qq, bz.tmps.getD 8 undef = .pointer (some ⟨qq, 0, none⟩) ∧ v2.heap.size ≤ qq ∧ Blk wz qq 27 #[.int .i64 0, .int .i64 0, .string ⟨#[]⟩, .string ⟨#[]⟩, .string ⟨#[]⟩, .string ⟨#[]⟩]
      | _ => True) (by kernel_rfl) (by kernel_rfl) (⟨(Chg.refl _ _ _).drew, HCUR.out.drew⟩) ?_ ?_ ?_
    · intro b wa wb i j oj v hi hj hij hoj hdep hE h
      simp only [List.mem_cons, List.not_mem_nil, or_false] at hi hj
      rcases hj with rfl | rfl | rfl | rfl | rfl | rfl | rfl | rfl | rfl | rfl | rfl | rfl | rfl | rfl | rfl | rfl | rfl | rfl | rfl | rfl | rfl | rfl | rfl
      all_goals obtain rfl := Option.some.inj hoj
      · rcases hi with rfl | rfl | rfl | rfl | rfl | rfl | rfl | rfl | rfl | rfl | rfl | rfl | rfl | rfl | rfl | rfl | rfl | rfl | rfl | rfl | rfl | rfl | rfl
        all_goals first | exact absurd rfl hij | (simp only at hE h ⊢; first | exact getkV h (by decide) | (obtain ⟨x, h⟩ := h; exact ⟨x, getkV h (by decide)⟩) | (obtain ⟨qq, e, h1, h2⟩ := h; exact ⟨qq, getkV e (by decide), h1, (hE.block _ h2.lt (.inr (by omega))).trans h2⟩)) | exact absurd rfl (hdep _ rfl ⟨0, .data⟩ (by simp) rfl)
      · rcases hi with rfl | rfl | rfl | rfl | rfl | rfl | rfl | rfl | rfl | rfl | rfl | rfl | rfl | rfl | rfl | rfl | rfl | rfl | rfl | rfl | rfl | rfl | rfl
        all_goals first | exact absurd rfl hij | (simp only at hE h ⊢; first | exact getkV h (by decide) | (obtain ⟨x, h⟩ := h; exact ⟨x, getkV h (by decide)⟩) | (obtain ⟨qq, e, h1, h2⟩ := h; exact ⟨qq, getkV e (by decide), h1, (hE.block _ h2.lt (.inr (by omega))).trans h2⟩)) | exact absurd rfl (hdep _ rfl ⟨1, .data⟩ (by simp) rfl)
      · rcases hi with rfl | rfl | rfl | rfl | rfl | rfl | rfl | rfl | rfl | rfl | rfl | rfl | rfl | rfl | rfl | rfl | rfl | rfl | rfl | rfl | rfl | rfl | rfl
        all_goals first | exact absurd rfl hij | (simp only at hE h ⊢; first | exact getkV h (by decide) | (obtain ⟨x, h⟩ := h; exact ⟨x, getkV h (by decide)⟩) | (obtain ⟨qq, e, h1, h2⟩ := h; exact ⟨qq, getkV e (by decide), h1, (hE.block _ h2.lt (.inr (by omega))).trans h2⟩)) | exact absurd rfl (hdep _ rfl ⟨2, .data⟩ (by simp) rfl)
      · rcases hi with rfl | rfl | rfl | rfl | rfl | rfl | rfl | rfl | rfl | rfl | rfl | rfl | rfl | rfl | rfl | rfl | rfl | rfl | rfl | rfl | rfl | rfl | rfl
        all_goals first | exact absurd rfl hij | (simp only at hE h ⊢; first | exact getkV h (by decide) | (obtain ⟨x, h⟩ := h; exact ⟨x, getkV h (by decide)⟩) | (obtain ⟨qq, e, h1, h2⟩ := h; exact ⟨qq, getkV e (by decide), h1, (hE.block _ h2.lt (.inr (by omega))).trans h2⟩)) | exact absurd rfl (hdep _ rfl ⟨3, .data⟩ (by simp) rfl)
      · rcases hi with rfl | rfl | rfl | rfl | rfl | rfl | rfl | rfl | rfl | rfl | rfl | rfl | rfl | rfl | rfl | rfl | rfl | rfl | rfl | rfl | rfl | rfl | rfl
        all_goals first | exact absurd rfl hij | (simp only at hE h ⊢; first | exact getkV h (by decide) | (obtain ⟨x, h⟩ := h; exact ⟨x, getkV h (by decide)⟩) | (obtain ⟨qq, e, h1, h2⟩ := h; exact ⟨qq, getkV e (by decide), h1, (hE.block _ h2.lt (.inr (by omega))).trans h2⟩)) | exact absurd rfl (hdep _ rfl ⟨4, .data⟩ (by simp) rfl)
      · rcases hi with rfl | rfl | rfl | rfl | rfl | rfl | rfl | rfl | rfl | rfl | rfl | rfl | rfl | rfl | rfl | rfl | rfl | rfl | rfl | rfl | rfl | rfl | rfl
        all_goals first | exact absurd rfl hij | (simp only at hE h ⊢; first | exact getkV h (by decide) | (obtain ⟨x, h⟩ := h; exact ⟨x, getkV h (by decide)⟩) | (obtain ⟨qq, e, h1, h2⟩ := h; exact ⟨qq, getkV e (by decide), h1, (hE.block _ h2.lt (.inr (by omega))).trans h2⟩)) | exact absurd rfl (hdep _ rfl ⟨5, .data⟩ (by simp) rfl)
      · rcases hi with rfl | rfl | rfl | rfl | rfl | rfl | rfl | rfl | rfl | rfl | rfl | rfl | rfl | rfl | rfl | rfl | rfl | rfl | rfl | rfl | rfl | rfl | rfl
        all_goals first | exact absurd rfl hij | (simp only at hE h ⊢; first | exact getkV h (by decide) | (obtain ⟨x, h⟩ := h; exact ⟨x, getkV h (by decide)⟩) | (obtain ⟨qq, e, h1, h2⟩ := h; exact ⟨qq, getkV e (by decide), h1, (hE.block _ h2.lt (.inr (by omega))).trans h2⟩)) | exact absurd rfl (hdep _ rfl ⟨6, .data⟩ (by simp) rfl)
      · rcases hi with rfl | rfl | rfl | rfl | rfl | rfl | rfl | rfl | rfl | rfl | rfl | rfl | rfl | rfl | rfl | rfl | rfl | rfl | rfl | rfl | rfl | rfl | rfl
        all_goals first | exact absurd rfl hij | (simp only at hE h ⊢; first | exact getkV h (by decide) | (obtain ⟨x, h⟩ := h; exact ⟨x, getkV h (by decide)⟩) | (obtain ⟨qq, e, h1, h2⟩ := h; exact ⟨qq, getkV e (by decide), h1, (hE.block _ h2.lt (.inr (by omega))).trans h2⟩)) | exact absurd rfl (hdep _ rfl ⟨7, .data⟩ (by simp) rfl)
      · rcases hi with rfl | rfl | rfl | rfl | rfl | rfl | rfl | rfl | rfl | rfl | rfl | rfl | rfl | rfl | rfl | rfl | rfl | rfl | rfl | rfl | rfl | rfl | rfl
        all_goals first | exact absurd rfl hij | (simp only at hE h ⊢; first | exact getkV h (by decide) | (obtain ⟨x, h⟩ := h; exact ⟨x, getkV h (by decide)⟩) | (obtain ⟨qq, e, h1, h2⟩ := h; exact ⟨qq, getkV e (by decide), h1, (hE.block _ h2.lt (.inr (by omega))).trans h2⟩)) | exact absurd rfl (hdep _ rfl ⟨8, .data⟩ (by simp) rfl)
      · rcases hi with rfl | rfl | rfl | rfl | rfl | rfl | rfl | rfl | rfl | rfl | rfl | rfl | rfl | rfl | rfl | rfl | rfl | rfl | rfl | rfl | rfl | rfl | rfl
        all_goals first | exact absurd rfl hij | (simp only at hE h ⊢; first | exact getkV h (by decide) | (obtain ⟨x, h⟩ := h; exact ⟨x, getkV h (by decide)⟩) | (obtain ⟨qq, e, h1, h2⟩ := h; exact ⟨qq, getkV e (by decide), h1, (hE.block _ h2.lt (.inr (by omega))).trans h2⟩)) | exact absurd rfl (hdep _ rfl ⟨9, .data⟩ (by simp) rfl)
      · rcases hi with rfl | rfl | rfl | rfl | rfl | rfl | rfl | rfl | rfl | rfl | rfl | rfl | rfl | rfl | rfl | rfl | rfl | rfl | rfl | rfl | rfl | rfl | rfl
        all_goals first | exact absurd rfl hij | (simp only at hE h ⊢; first | exact getkV h (by decide) | (obtain ⟨x, h⟩ := h; exact ⟨x, getkV h (by decide)⟩) | (obtain ⟨qq, e, h1, h2⟩ := h; exact ⟨qq, getkV e (by decide), h1, (hE.block _ h2.lt (.inr (by omega))).trans h2⟩)) | exact absurd rfl (hdep _ rfl ⟨10, .data⟩ (by simp) rfl)
      · rcases hi with rfl | rfl | rfl | rfl | rfl | rfl | rfl | rfl | rfl | rfl | rfl | rfl | rfl | rfl | rfl | rfl | rfl | rfl | rfl | rfl | rfl | rfl | rfl
        all_goals first | exact absurd rfl hij | (simp only at hE h ⊢; first | exact getkV h (by decide) | (obtain ⟨x, h⟩ := h; exact ⟨x, getkV h (by decide)⟩) | (obtain ⟨qq, e, h1, h2⟩ := h; exact ⟨qq, getkV e (by decide), h1, (hE.block _ h2.lt (.inr (by omega))).trans h2⟩)) | exact absurd rfl (hdep _ rfl ⟨11, .data⟩ (by simp) rfl)
      · rcases hi with rfl | rfl | rfl | rfl | rfl | rfl | rfl | rfl | rfl | rfl | rfl | rfl | rfl | rfl | rfl | rfl | rfl | rfl | rfl | rfl | rfl | rfl | rfl
        all_goals first | exact absurd rfl hij | (simp only at hE h ⊢; first | exact getkV h (by decide) | (obtain ⟨x, h⟩ := h; exact ⟨x, getkV h (by decide)⟩) | (obtain ⟨qq, e, h1, h2⟩ := h; exact ⟨qq, getkV e (by decide), h1, (hE.block _ h2.lt (.inr (by omega))).trans h2⟩)) | exact absurd rfl (hdep _ rfl ⟨12, .data⟩ (by simp) rfl)
      · rcases hi with rfl | rfl | rfl | rfl | rfl | rfl | rfl | rfl | rfl | rfl | rfl | rfl | rfl | rfl | rfl | rfl | rfl | rfl | rfl | rfl | rfl | rfl | rfl
        all_goals first | exact absurd rfl hij | (simp only at hE h ⊢; first | exact getkV h (by decide) | (obtain ⟨x, h⟩ := h; exact ⟨x, getkV h (by decide)⟩) | (obtain ⟨qq, e, h1, h2⟩ := h; exact ⟨qq, getkV e (by decide), h1, (hE.block _ h2.lt (.inr (by omega))).trans h2⟩)) | exact absurd rfl (hdep _ rfl ⟨13, .data⟩ (by simp) rfl)
      · rcases hi with rfl | rfl | rfl | rfl | rfl | rfl | rfl | rfl | rfl | rfl | rfl | rfl | rfl | rfl | rfl | rfl | rfl | rfl | rfl | rfl | rfl | rfl | rfl
        all_goals first | exact absurd rfl hij | (simp only at hE h ⊢; first | exact getkV h (by decide) | (obtain ⟨x, h⟩ := h; exact ⟨x, getkV h (by decide)⟩) | (obtain ⟨qq, e, h1, h2⟩ := h; exact ⟨qq, getkV e (by decide), h1, (hE.block _ h2.lt (.inr (by omega))).trans h2⟩)) | exact absurd rfl (hdep _ rfl ⟨14, .data⟩ (by simp) rfl)
      · rcases hi with rfl | rfl | rfl | rfl | rfl | rfl | rfl | rfl | rfl | rfl | rfl | rfl | rfl | rfl | rfl | rfl | rfl | rfl | rfl | rfl | rfl | rfl | rfl
        all_goals first | exact absurd rfl hij | (simp only at hE h ⊢; first | exact getkV h (by decide) | (obtain ⟨x, h⟩ := h; exact ⟨x, getkV h (by decide)⟩) | (obtain ⟨qq, e, h1, h2⟩ := h; exact ⟨qq, getkV e (by decide), h1, (hE.block _ h2.lt (.inr (by omega))).trans h2⟩)) | exact absurd rfl (hdep _ rfl ⟨15, .data⟩ (by simp) rfl)
      · rcases hi with rfl | rfl | rfl | rfl | rfl | rfl | rfl | rfl | rfl | rfl | rfl | rfl | rfl | rfl | rfl | rfl | rfl | rfl | rfl | rfl | rfl | rfl | rfl
        all_goals first | exact absurd rfl hij | (simp only at hE h ⊢; first | exact getkV h (by decide) | (obtain ⟨x, h⟩ := h; exact ⟨x, getkV h (by decide)⟩) | (obtain ⟨qq, e, h1, h2⟩ := h; exact ⟨qq, getkV e (by decide), h1, (hE.block _ h2.lt (.inr (by omega))).trans h2⟩)) | exact absurd rfl (hdep _ rfl ⟨16, .data⟩ (by simp) rfl)
      · rcases hi with rfl | rfl | rfl | rfl | rfl | rfl | rfl | rfl | rfl | rfl | rfl | rfl | rfl | rfl | rfl | rfl | rfl | rfl | rfl | rfl | rfl | rfl | rfl
        all_goals first | exact absurd rfl hij | (simp only at hE h ⊢; first | exact getkV h (by decide) | (obtain ⟨x, h⟩ := h; exact ⟨x, getkV h (by decide)⟩) | (obtain ⟨qq, e, h1, h2⟩ := h; exact ⟨qq, getkV e (by decide), h1, (hE.block _ h2.lt (.inr (by omega))).trans h2⟩)) | exact absurd rfl (hdep _ rfl ⟨17, .data⟩ (by simp) rfl)
      · rcases hi with rfl | rfl | rfl | rfl | rfl | rfl | rfl | rfl | rfl | rfl | rfl | rfl | rfl | rfl | rfl | rfl | rfl | rfl | rfl | rfl | rfl | rfl | rfl
        all_goals first | exact absurd rfl hij | (simp only at hE h ⊢; first | exact getkV h (by decide) | (obtain ⟨x, h⟩ := h; exact ⟨x, getkV h (by decide)⟩) | (obtain ⟨qq, e, h1, h2⟩ := h; exact ⟨qq, getkV e (by decide), h1, (hE.block _ h2.lt (.inr (by omega))).trans h2⟩)) | exact absurd rfl (hdep _ rfl ⟨18, .data⟩ (by simp) rfl)
      · rcases hi with rfl | rfl | rfl | rfl | rfl | rfl | rfl | rfl | rfl | rfl | rfl | rfl | rfl | rfl | rfl | rfl | rfl | rfl | rfl | rfl | rfl | rfl | rfl
        all_goals first | exact absurd rfl hij | (simp only at hE h ⊢; first | exact getkV h (by decide) | (obtain ⟨x, h⟩ := h; exact ⟨x, getkV h (by decide)⟩) | (obtain ⟨qq, e, h1, h2⟩ := h; exact ⟨qq, getkV e (by decide), h1, (hE.block _ h2.lt (.inr (by omega))).trans h2⟩)) | exact absurd rfl (hdep _ rfl ⟨19, .data⟩ (by simp) rfl)
      · rcases hi with rfl | rfl | rfl | rfl | rfl | rfl | rfl | rfl | rfl | rfl | rfl | rfl | rfl | rfl | rfl | rfl | rfl | rfl | rfl | rfl | rfl | rfl | rfl
        all_goals first | exact absurd rfl hij | (simp only at hE h ⊢; first | exact getkV h (by decide) | (obtain ⟨x, h⟩ := h; exact ⟨x, getkV h (by decide)⟩) | (obtain ⟨qq, e, h1, h2⟩ := h; exact ⟨qq, getkV e (by decide), h1, (hE.block _ h2.lt (.inr (by omega))).trans h2⟩)) | exact absurd rfl (hdep _ rfl ⟨20, .data⟩ (by simp) rfl)
      · rcases hi with rfl | rfl | rfl | rfl | rfl | rfl | rfl | rfl | rfl | rfl | rfl | rfl | rfl | rfl | rfl | rfl | rfl | rfl | rfl | rfl | rfl | rfl | rfl
        all_goals first | exact absurd rfl hij | (simp only at hE h ⊢; first | exact getkV h (by decide) | (obtain ⟨x, h⟩ := h; exact ⟨x, getkV h (by decide)⟩) | (obtain ⟨qq, e, h1, h2⟩ := h; exact ⟨qq, getkV e (by decide), h1, (hE.block _ h2.lt (.inr (by omega))).trans h2⟩)) | exact absurd rfl (hdep _ rfl ⟨21, .data⟩ (by simp) rfl)
      · rcases hi with rfl | rfl | rfl | rfl | rfl | rfl | rfl | rfl | rfl | rfl | rfl | rfl | rfl | rfl | rfl | rfl | rfl | rfl | rfl | rfl | rfl | rfl | rfl
        all_goals first | exact absurd rfl hij | (simp only at hE h ⊢; first | exact getkV h (by decide) | (obtain ⟨x, h⟩ := h; exact ⟨x, getkV h (by decide)⟩) | (obtain ⟨qq, e, h1, h2⟩ := h; exact ⟨qq, getkV e (by decide), h1, (hE.block _ h2.lt (.inr (by omega))).trans h2⟩)) | exact absurd rfl (hdep _ rfl ⟨22, .data⟩ (by simp) rfl)
    · intro j o hj ho a' w' hC hsame hdep
      have hz : v2.heap.size ≤ w'.heap.size := hC.1.size
      simp only [List.mem_cons, List.not_mem_nil, or_false] at hj
      rcases hj with rfl | rfl | rfl | rfl | rfl | rfl | rfl | rfl | rfl | rfl | rfl | rfl | rfl | rfl | rfl | rfl | rfl | rfl | rfl | rfl | rfl | rfl | rfl
      all_goals obtain rfl := Option.some.inj ho
      · have hss : a'.tmps.getD 3 undef = .pointer (some ⟨w.heap.size, 0, none⟩) := hsame 3 (by rfl)
        refine wp_val (w2 := w') (.pointer (some ⟨w.heap.size, 0, none⟩)) (fun K hK => ?_) ⟨_, rfl, hC, Chg.refl _ _ _, fun b hb hb2 => hb 13 rfl⟩
        clear hsame hdep
        unfold Oper.wp
        simp [execOp, Act.eval, go_sem, hss]
        exact hK
      · have hss : a'.tmps.getD 13 undef = .pointer (some ⟨w.heap.size, 0, none⟩) := hdep ⟨0, .data⟩ (by simp) rfl
        refine wp_val (w2 := w') (.pointer (some ⟨w.heap.size, 0, none⟩)) (fun K hK => ?_) ⟨_, rfl, hC, Chg.refl _ _ _, fun b hb hb2 => hb 14 rfl⟩
        clear hsame hdep
        unfold Oper.wp
        simp [execOp, Act.eval, go_sem, hss]
        exact hK
      · have hss : a'.tmps.getD 14 undef = .pointer (some ⟨w.heap.size, 0, none⟩) := hdep ⟨1, .data⟩ (by simp) rfl
        have zz : ∀ o, w'.cell? ⟨w.heap.size, o, none⟩ = _ := fun o => (hC.1.cell (k := w.heap.size) (by omega) (.inr (by omega))).trans (ceXA o)
        refine wp_val (w2 := w') (.int .i64 s.h) (fun K hK => ?_) ⟨_, rfl, hC, Chg.refl _ _ _, fun b hb hb2 => hb 15 rfl⟩
        clear hsame hdep
        unfold Oper.wp
        simp [execOp, Act.eval, go_sem, hss, zz]
        exact hK
      · have e1 : a'.tmps.getD 15 undef = .int .i64 s.h := hdep ⟨2, .data⟩ (by simp) rfl
        have e1q := e1
        rw [Array.getD_eq_getD_getElem?] at e1q
        refine wp_call (fun u w2 => (∃ x : Int, u = .int .i64 x) ∧ w2 = w') (fun K hK => ?_) ?_
        · clear hsame hdep
          unfold Oper.wp
          simp [execOp, Act.eval, go_sem, e1]
          exact hK _ _ ⟨⟨_, rfl⟩, rfl⟩
        · rintro u w3 ⟨⟨x, rfl⟩, rfl⟩
          exact ⟨_, rfl, hC, Chg.refl _ _ _, fun b hb _ => ⟨x, hb 16 rfl⟩⟩
      · have hss : a'.tmps.getD 3 undef = .pointer (some ⟨w.heap.size, 0, none⟩) := hsame 3 (by rfl)
        refine wp_val (w2 := w') (.pointer (some ⟨w.heap.size, 0, none⟩)) (fun K hK => ?_) ⟨_, rfl, hC, Chg.refl _ _ _, fun b hb hb2 => hb 17 rfl⟩
        clear hsame hdep
        unfold Oper.wp
        simp [execOp, Act.eval, go_sem, hss]
        exact hK
      · have hss : a'.tmps.getD 17 undef = .pointer (some ⟨w.heap.size, 0, none⟩) := hdep ⟨4, .data⟩ (by simp) rfl
        refine wp_val (w2 := w') (.pointer (some ⟨w.heap.size, 1, none⟩)) (fun K hK => ?_) ⟨_, rfl, hC, Chg.refl _ _ _, fun b hb hb2 => hb 18 rfl⟩
        clear hsame hdep
        unfold Oper.wp
        simp [execOp, Act.eval, go_sem, hss]
        exact hK
      · have hss : a'.tmps.getD 18 undef = .pointer (some ⟨w.heap.size, 1, none⟩) := hdep ⟨5, .data⟩ (by simp) rfl
        have zz : ∀ o, w'.cell? ⟨w.heap.size, o, none⟩ = _ := fun o => (hC.1.cell (k := w.heap.size) (by omega) (.inr (by omega))).trans (ceXA o)
        refine wp_val (w2 := w') (.int .i64 s.t) (fun K hK => ?_) ⟨_, rfl, hC, Chg.refl _ _ _, fun b hb hb2 => hb 19 rfl⟩
        clear hsame hdep
        unfold Oper.wp
        simp [execOp, Act.eval, go_sem, hss, zz]
        exact hK
      · have e1 : a'.tmps.getD 19 undef = .int .i64 s.t := hdep ⟨6, .data⟩ (by simp) rfl
        have e1q := e1
        rw [Array.getD_eq_getD_getElem?] at e1q
        refine wp_call (fun u w2 => (∃ x : Int, u = .int .i64 x) ∧ w2 = w') (fun K hK => ?_) ?_
        · clear hsame hdep
          unfold Oper.wp
          simp [execOp, Act.eval, go_sem, e1]
          exact hK _ _ ⟨⟨_, rfl⟩, rfl⟩
        · rintro u w3 ⟨⟨x, rfl⟩, rfl⟩
          exact ⟨_, rfl, hC, Chg.refl _ _ _, fun b hb _ => ⟨x, hb 20 rfl⟩⟩
      · have hss : a'.tmps.getD 0 undef = .pointer (some ⟨cb, 0, none⟩) := hsame 0 (by rfl)
        refine wp_val (w2 := w') (.pointer (some ⟨cb, 0, none⟩)) (fun K hK => ?_) ⟨_, rfl, hC, Chg.refl _ _ _, fun b hb hb2 => hb 21 rfl⟩
        clear hsame hdep
        unfold Oper.wp
        simp [execOp, Act.eval, go_sem, hss]
        exact hK
      · have e1 : a'.tmps.getD 21 undef = .pointer (some ⟨cb, 0, none⟩) := hdep ⟨8, .data⟩ (by simp) rfl
        refine wp_call (fun u w2 => (∃ x : Int, u = .int .i64 x) ∧ Chg cb (cb + 1) w' w2 ∧ Cur w2 cb A n c) (fun K hK => ?_) ?_
        · clear hsame hdep
          unfold Oper.wp
          simp [Act.eval, e1, go_sem]
          refine (l1Below_any cb A n c 5 _ hC.2 (by omega)).mono ?_
          rintro e w3 ⟨v, rfl, ⟨x, rfl, x0, x1⟩, hg3, hu3⟩
          exact hK _ _ ⟨⟨x, rfl⟩, hg3, hu3⟩
        · rintro u w3 ⟨⟨x, rfl⟩, hg3, hu3⟩
          exact ⟨_, rfl, ⟨hC.1.trans hg3, hu3⟩, hg3, fun b hb _ => ⟨x, hb 22 rfl⟩⟩
      · obtain ⟨x, e1⟩ := hdep ⟨7, .data⟩ (by simp) rfl
        obtain ⟨y, e2⟩ := hdep ⟨9, .data⟩ (by simp) rfl
        have e1q := e1
        have e2q := e2
        rw [Array.getD_eq_getD_getElem?] at e1q e2q
        refine wp_call (fun u w2 => (∃ x : Int, u = .int .i64 x) ∧ w2 = w') (fun K hK => ?_) ?_
        · clear hsame hdep
          unfold Oper.wp
          simp [execOp, Act.eval, go_sem, e1, e2]
          exact hK _ _ ⟨⟨_, rfl⟩, rfl⟩
        · rintro u w3 ⟨⟨x, rfl⟩, rfl⟩
          exact ⟨_, rfl, hC, Chg.refl _ _ _, fun b hb _ => ⟨x, hb 23 rfl⟩⟩
      · have hss : a'.tmps.getD 3 undef = .pointer (some ⟨w.heap.size, 0, none⟩) := hsame 3 (by rfl)
        refine wp_val (w2 := w') (.pointer (some ⟨w.heap.size, 0, none⟩)) (fun K hK => ?_) ⟨_, rfl, hC, Chg.refl _ _ _, fun b hb hb2 => hb 24 rfl⟩
        clear hsame hdep
        unfold Oper.wp
        simp [execOp, Act.eval, go_sem, hss]
        exact hK
      · have hss : a'.tmps.getD 24 undef = .pointer (some ⟨w.heap.size, 0, none⟩) := hdep ⟨11, .data⟩ (by simp) rfl
        have zz : ∀ o, w'.cell? ⟨w.heap.size, o, none⟩ = _ := fun o => (hC.1.cell (k := w.heap.size) (by omega) (.inr (by omega))).trans (ceXA o)
        refine wp_val (w2 := w') (.agg #[.int .i64 s.h, .int .i64 s.t, .string s.last, .string s.vals, .string s.next, .string s.data]) (fun K hK => ?_) ⟨_, rfl, hC, Chg.refl _ _ _, fun b hb hb2 => hb 25 rfl⟩
        clear hsame hdep
        unfold Oper.wp
        simp [execOp, Act.eval, go_sem, hss, zz]
        exact hK
      · have e1 : a'.tmps.getD 25 undef = .agg #[.int .i64 s.h, .int .i64 s.t, .string s.last, .string s.vals, .string s.next, .string s.data] := hdep ⟨12, .data⟩ (by simp) rfl
        refine wp_call (fun u w2 => u = .string (headIdB s) ∧ Below w'.heap.size w' w2) (fun K hK => ?_) ?_
        · clear hsame hdep
          unfold Oper.wp
          simp [Act.eval, e1, go_sem]
          refine (sHeadId_any s _).mono ?_
          rintro e w3 ⟨rfl, hb3⟩
          exact hK _ _ ⟨rfl, hb3⟩
        · rintro u w3 ⟨rfl, hb3⟩
          exact ⟨_, rfl, ⟨hC.1.below_trans hb3, hC.2.below hb3 hC.2.lt (Nat.le_refl _)⟩, (Chg.refl cb (cb + 1) w').below_trans hb3, fun b hb _ => hb 26 rfl⟩
      · have hss : a'.tmps.getD 3 undef = .pointer (some ⟨w.heap.size, 0, none⟩) := hsame 3 (by rfl)
        refine wp_val (w2 := w') (.pointer (some ⟨w.heap.size, 0, none⟩)) (fun K hK => ?_) ⟨_, rfl, hC, Chg.refl _ _ _, fun b hb hb2 => hb 27 rfl⟩
        clear hsame hdep
        unfold Oper.wp
        simp [execOp, Act.eval, go_sem, hss]
        exact hK
      · have hss : a'.tmps.getD 27 undef = .pointer (some ⟨w.heap.size, 0, none⟩) := hdep ⟨14, .data⟩ (by simp) rfl
        refine wp_val (w2 := w') (.pointer (some ⟨w.heap.size, 4, none⟩)) (fun K hK => ?_) ⟨_, rfl, hC, Chg.refl _ _ _, fun b hb hb2 => hb 28 rfl⟩
        clear hsame hdep
        unfold Oper.wp
        simp [execOp, Act.eval, go_sem, hss]
        exact hK
      · have hss : a'.tmps.getD 28 undef = .pointer (some ⟨w.heap.size, 4, none⟩) := hdep ⟨15, .data⟩ (by simp) rfl
        have zz : ∀ o, w'.cell? ⟨w.heap.size, o, none⟩ = _ := fun o => (hC.1.cell (k := w.heap.size) (by omega) (.inr (by omega))).trans (ceXA o)
        refine wp_val (w2 := w') (.string s.next) (fun K hK => ?_) ⟨_, rfl, hC, Chg.refl _ _ _, fun b hb hb2 => hb 29 rfl⟩
        clear hsame hdep
        unfold Oper.wp
        simp [execOp, Act.eval, go_sem, hss, zz]
        exact hK
      · have hss : a'.tmps.getD 7 undef = .slice B nl.length d := hsame 7 (by rfl)
        refine wp_val (w2 := w') (.slice B nl.length d) (fun K hK => ?_) ⟨_, rfl, hC, Chg.refl _ _ _, fun b hb hb2 => hb 30 rfl⟩
        clear hsame hdep
        unfold Oper.wp
        simp [execOp, Act.eval, go_sem, hss]
        exact hK
      · have e1 : a'.tmps.getD 30 undef = .slice B nl.length d := hdep ⟨17, .data⟩ (by simp) rfl
        have hrr : RdL valC 2 w' w'.heap.size B nl.length d nl := ((ON2.out.chg hC.1 (by omega)).rd valC_len).more (by have := hC.1.size; omega)
        refine wp_call (fun u w2 => u = .string (valsHashB nl) ∧ Below w'.heap.size w' w2) (fun K hK => ?_) ?_
        · clear hsame hdep
          unfold Oper.wp
          simp [Act.eval, e1, go_sem]
          refine (sValsHash_any B _ d nl _ hrr).mono ?_
          rintro e w3 ⟨rfl, hb3⟩
          exact hK _ _ ⟨rfl, hb3⟩
        · rintro u w3 ⟨rfl, hb3⟩
          exact ⟨_, rfl, ⟨hC.1.below_trans hb3, hC.2.below hb3 hC.2.lt (Nat.le_refl _)⟩, (Chg.refl cb (cb + 1) w').below_trans hb3, fun b hb _ => hb 31 rfl⟩
      · have hss : a'.tmps.getD 0 undef = .pointer (some ⟨cb, 0, none⟩) := hsame 0 (by rfl)
        refine wp_val (w2 := w') (.pointer (some ⟨cb, 0, none⟩)) (fun K hK => ?_) ⟨_, rfl, hC, Chg.refl _ _ _, fun b hb hb2 => hb 32 rfl⟩
        clear hsame hdep
        unfold Oper.wp
        simp [execOp, Act.eval, go_sem, hss]
        exact hK
      · have e1 : a'.tmps.getD 32 undef = .pointer (some ⟨cb, 0, none⟩) := hdep ⟨19, .data⟩ (by simp) rfl
        refine wp_call (fun u w2 => (∃ t : ByteArray, u = .string t) ∧ Chg cb (cb + 1) w' w2 ∧ Cur w2 cb A n c) (fun K hK => ?_) ?_
        · clear hsame hdep
          unfold Oper.wp
          simp [Act.eval, e1, go_sem]
          refine (l1Text_any cb A n c 3 _ hC.2 (by decide)).mono ?_
          rintro e w3 ⟨v, rfl, ⟨t, rfl, _⟩, hg3, hu3⟩
          exact hK _ _ ⟨⟨t, rfl⟩, hg3, hu3⟩
        · rintro u w3 ⟨⟨t, rfl⟩, hg3, hu3⟩
          exact ⟨_, rfl, ⟨hC.1.trans hg3, hu3⟩, hg3, fun b hb _ => ⟨t, hb 33 rfl⟩⟩
      · obtain ⟨x, e1⟩ := hdep ⟨3, .data⟩ (by simp) rfl
        obtain ⟨y, e2⟩ := hdep ⟨10, .data⟩ (by simp) rfl
        have e3 : a'.tmps.getD 26 undef = .string (headIdB s) := hdep ⟨13, .data⟩ (by simp) rfl
        have e4 : a'.tmps.getD 29 undef = .string s.next := hdep ⟨16, .data⟩ (by simp) rfl
        have e5 : a'.tmps.getD 31 undef = .string (valsHashB nl) := hdep ⟨18, .data⟩ (by simp) rfl
        obtain ⟨t, e6⟩ := hdep ⟨20, .data⟩ (by simp) rfl
        have e1q := e1
        have e2q := e2
        have e3q := e3
        have e4q := e4
        have e5q := e5
        have e6q := e6
        rw [Array.getD_eq_getD_getElem?] at e1q e2q e3q e4q e5q e6q
        refine wp_val (w2 := w') (.agg #[.int .i64 x, .int .i64 y, .string (headIdB s), .string s.next, .string (valsHashB nl), .string t]) (fun K hK => ?_) ⟨_, rfl, hC, Chg.refl _ _ _, fun b hb hb2 => ⟨⟨x, y, headIdB s, s.next, valsHashB nl, t⟩, hb 34 rfl⟩⟩
        clear hsame hdep
        unfold Oper.wp
        simp [execOp, Act.eval, go_sem, e1q, e2q, e3q, e4q, e5q, e6q]
        exact hK
      · refine wp_val (w2 := w'.alloc (.cells #[.int .i64 0, .int .i64 0, .string ⟨#[]⟩, .string ⟨#[]⟩, .string ⟨#[]⟩, .string ⟨#[]⟩] 27)) (.pointer (some ⟨w'.heap.size, 0, none⟩)) (fun K hK => ?_) ⟨_, rfl, ⟨hC.1.alloc _, hC.2.alloc _⟩, (Chg.refl _ _ _).alloc _, fun b hb hb2 => ⟨w'.heap.size, hb 8 rfl, hz, heap_alloc_new w' _⟩⟩
        clear hsame hdep
        unfold Oper.wp
        simp [execOp, go_sem]
        exact hK
    · intro a' w' hC ha hP
      obtain ⟨q0, e8, hq0, hblk⟩ := hP 22 (by simp)
      obtain ⟨hd, e34⟩ := hP 21 (by simp)
      clear hP
      simp only [coreOps, List.filterMap_cons, List.filterMap_nil, List.getElem?_cons_zero, List.getElem?_cons_succ, fillA, slotOf, Act.put, List.setIfInBounds_toArray, List.set_cons_zero, List.set_cons_succ, e8, e34] at ha
      generalize a'.tmps.getD 13 undef = u13 at ha
      generalize a'.tmps.getD 14 undef = u14 at ha
      generalize a'.tmps.getD 15 undef = u15 at ha
      generalize a'.tmps.getD 16 undef = u16 at ha
      generalize a'.tmps.getD 17 undef = u17 at ha
      generalize a'.tmps.getD 18 undef = u18 at ha
      generalize a'.tmps.getD 19 undef = u19 at ha
      generalize a'.tmps.getD 20 undef = u20 at ha
      generalize a'.tmps.getD 21 undef = u21 at ha
      generalize a'.tmps.getD 22 undef = u22 at ha
      generalize a'.tmps.getD 23 undef = u23 at ha
      generalize a'.tmps.getD 24 undef = u24 at ha
      generalize a'.tmps.getD 25 undef = u25 at ha
      generalize a'.tmps.getD 26 undef = u26 at ha
      generalize a'.tmps.getD 27 undef = u27 at ha
      generalize a'.tmps.getD 28 undef = u28 at ha
      generalize a'.tmps.getD 29 undef = u29 at ha
      generalize a'.tmps.getD 30 undef = u30 at ha
      generalize a'.tmps.getD 31 undef = u31 at ha
      generalize a'.tmps.getD 32 undef = u32 at ha
      generalize a'.tmps.getD 33 undef = u33 at ha
      subst ha
      have f := hblk.cell
      have ff := hblk.frozen
      have flt := hblk.lt
      show wpAny _ _ _ _ 1 _ _ _
      refine wpAny_ready (rs := [23]) (by kernel_rfl) (by simp) ?_
      refine AllReady.cons rfl (fun K hK => ?_) AllReady.nil
      go_simp
      refine hK _ _ ?_
      clear hK K
      refine wpAny_done (by kernel_rfl) ?_ _
      go_wp2_with fail
      go_meet
      refine ⟨q0, hd, rfl, hq0, ?_, hC.1.trans_topT (D := q0) (hi := q0 + 1) hq0 (by (repeat (first | with_reducible refine Chg.setCell ?_ (by first | exact Nat.le_refl _ | (simp; done) | (simp; omega)) (by first | (simp; done) | (simp; omega)) _ | with_reducible refine Chg.alloc ?_ _ | with_reducible refine Chg.drew ?_)); (with_reducible exact Chg.refl _ _ _)), hC.2.chg (lo := q0) (hi := q0 + 1) (by (repeat (first | with_reducible refine Chg.setCell ?_ (by first | exact Nat.le_refl _ | (simp; done) | (simp; omega)) (by first | (simp; done) | (simp; omega)) _ | with_reducible refine Chg.alloc ?_ _ | with_reducible refine Chg.drew ?_)); (with_reducible exact Chg.refl _ _ _)) (by omega)⟩
      have h := (((((hblk.set_ 0 (.int .i64 hd.h)).set_ 1 (.int .i64 hd.t)).set_ 2 (.string hd.last)).set_ 3 (.string hd.vals)).set_ 4 (.string hd.next)).set_ 5 (.string hd.data)
      simp only [List.setIfInBounds_toArray, List.set_cons_zero, List.set_cons_succ] at h
      exact h
  case rest =>
  obtain ⟨qq, hd, rfl, hqq, hbq, hg, hu⟩ := hcut
  obtain ⟨v3, hwv⟩ : ∃ z, z = wc := ⟨_, rfl⟩
  subst hwv
  clear ceXA lbXA
  clear HCUR
  have hs3 := hg.size
  have XA3 := Lib.hid (show Blk _ _ _ _ from (hg.block _ XA2.out.lt (by omega)).trans XA2.out)
  have RH3 := Lib.hid (show Blk _ _ _ _ from (hg.block _ RH2.out.lt (by omega)).trans RH2.out)
  have RC3 := Lib.hid (show Blk _ _ _ _ from (hg.block _ RC2.out.lt (by omega)).trans RC2.out)
  have CH3 := Lib.hid (CH2.out.trans hg)
  have U3 := Lib.hid (hu)
  have OA3 := Lib.hid (OA2.out.chg hg (by omega))
  have ON3 := Lib.hid (ON2.out.chg hg (by omega))
  clear hg hu XA2 RH2 RC2 CH2 U2 OA2 ON2
  have XQ3 := Lib.hid hbq
  have ltQ := hbq.lt
  clear hbq
  go_wp2_with fail
  refine (l1Once_any cb A n c 3 _ U3.out (by omega)).mono ?_
  rintro e v4 ⟨v, rfl, ⟨b, rfl⟩, hg, hu⟩
  have hs4 := hg.size
  have XA4 := Lib.hid (show Blk _ _ _ _ from (hg.block _ XA3.out.lt (by omega)).trans XA3.out)
  have RH4 := Lib.hid (show Blk _ _ _ _ from (hg.block _ RH3.out.lt (by omega)).trans RH3.out)
  have RC4 := Lib.hid (show Blk _ _ _ _ from (hg.block _ RC3.out.lt (by omega)).trans RC3.out)
  have CH4 := Lib.hid (CH3.out.trans hg)
  have U4 := Lib.hid (hu)
  have OA4 := Lib.hid (OA3.out.chg hg (by omega))
  have ON4 := Lib.hid (ON3.out.chg hg (by omega))
  have XQ4 := Lib.hid (show Blk _ _ _ _ from (hg.block _ XQ3.out.lt (by omega)).trans XQ3.out)
  clear hg hu XA3 RH3 RC3 CH3 U3 OA3 ON3 XQ3
  go_upto_if 36 with fail
  go_cut [7] (fun lv wx => ∃ (hd : HeaderD) (nl : List ValD) (B : Option Addr) (d : Nat), lv = .slice B nl.length d ∧ Blk wx qq 27 #[.int .i64 hd.h, .int .i64 hd.t, .string hd.last, .string hd.vals, .string hd.next, .string hd.data] ∧ Blk wx w.heap.size 30 #[.int .i64 s.h, .int .i64 s.t, .string s.last, .string s.vals, .string s.next, .string s.data, .slice Ba l.length da] ∧ Blk wx (w.heap.size + 1) 27 #[.int .i64 0, .int .i64 0, .string ⟨#[]⟩, .string ⟨#[]⟩, .string ⟨#[]⟩, .string ⟨#[]⟩] ∧ Blk wx (w.heap.size + 1 + 1) 33 #[.int .i64 0, .int .i64 0, .string ⟨#[]⟩, .slice none 0 0] ∧ OwnL valC 2 84 wx v1.heap.size wx.heap.size B nl.length d nl ∧ nl.length ≤ 8 ∧ OwnL valC 2 84 wx lo w.heap.size Ba l.length da l ∧ Chg cb (cb + 1) w wx ∧ Cur wx cb A n c ∧ v4.heap.size ≤ wx.heap.size)
  case first =>
    cases b
    · skip
      go_wp2_with fail
      go_meet
      exact ⟨hd, nl, B, d, rfl, XQ4.out, XA4.out, RH4.out, RC4.out, ON4.out.wide (by omega) (by omega), (by omega), OA4.out, CH4.out, U4.out, by omega⟩
    · skip
      go_wp2_with fail
      refine (l1Below_any cb A n c 6 _ U4.out (by omega)).mono ?_
      rintro e v5 ⟨v, rfl, ⟨x, rfl, x0, x1⟩, hg, hu⟩
      simp at x1
      have hs5 := hg.size
      have XA5 := Lib.hid (show Blk _ _ _ _ from (hg.block _ XA4.out.lt (by omega)).trans XA4.out)
      have RH5 := Lib.hid (show Blk _ _ _ _ from (hg.block _ RH4.out.lt (by omega)).trans RH4.out)
      have RC5 := Lib.hid (show Blk _ _ _ _ from (hg.block _ RC4.out.lt (by omega)).trans RC4.out)
      have CH5 := Lib.hid (CH4.out.trans hg)
      have U5 := Lib.hid (hu)
      have OA5 := Lib.hid (OA4.out.chg hg (by omega))
      have ON5 := Lib.hid (ON4.out.chg hg (by omega))
      have XQ5 := Lib.hid (show Blk _ _ _ _ from (hg.block _ XQ4.out.lt (by omega)).trans XQ4.out)
      clear hg hu XA4 RH4 RC4 CH4 U4 OA4 ON4 XQ4
      rcases (by omega : x = 0 ∨ x = 1 ∨ x = 2 ∨ x = 3 ∨ x = 4 ∨ x = 5) with rfl | rfl | rfl | rfl | rfl | rfl
      · skip
        have f := XQ5.out.cell
        have ff := XQ5.out.frozen
        have flt := XQ5.out.lt
        have ceXA := XA5.out.cell
        have lbXA := XA5.out.lt
        go_wp2_with fail
        go_meet
        refine ⟨⟨wrap64 (hd.h + 1), hd.t, hd.last, hd.vals, hd.next, hd.data⟩, nl, B, d, rfl, ?_, XA5.out.far (by show _ ≠ qq; omega) _, RH5.out.far (by show _ ≠ qq; omega) _, RC5.out.far (by show _ ≠ qq; omega) _, ?_, by omega, OA5.out.chg (lo' := qq) (hi' := qq + 1) (by (repeat (first | with_reducible refine Chg.setCell ?_ (by first | exact Nat.le_refl _ | (simp; done) | (simp; omega)) (by first | (simp; done) | (simp; omega)) _ | with_reducible refine Chg.alloc ?_ _ | with_reducible refine Chg.drew ?_)); (with_reducible exact Chg.refl _ _ _)) (by omega), CH5.out.trans_topT (D := qq) (hi := qq + 1) (by omega) (by (repeat (first | with_reducible refine Chg.setCell ?_ (by first | exact Nat.le_refl _ | (simp; done) | (simp; omega)) (by first | (simp; done) | (simp; omega)) _ | with_reducible refine Chg.alloc ?_ _ | with_reducible refine Chg.drew ?_)); (with_reducible exact Chg.refl _ _ _)), U5.out.chg (lo := qq) (hi := qq + 1) (by (repeat (first | with_reducible refine Chg.setCell ?_ (by first | exact Nat.le_refl _ | (simp; done) | (simp; omega)) (by first | (simp; done) | (simp; omega)) _ | with_reducible refine Chg.alloc ?_ _ | with_reducible refine Chg.drew ?_)); (with_reducible exact Chg.refl _ _ _)) (by omega), by simp; omega⟩
        · have h := XQ5.out.set_ 0 (.int .i64 (wrap64 (hd.h + 1)))
          simp only [List.setIfInBounds_toArray, List.set_cons_zero] at h
          exact h
        · obtain ⟨ga, gb, o3, b1, b2, b3, b4⟩ := ON5.out.apart XQ5.out (by decide) (by omega)
          refine (OwnL.chg (lo' := qq) (hi' := qq + 1) o3 (by (repeat (first | with_reducible refine Chg.setCell ?_ (by first | exact Nat.le_refl _ | (simp; done) | (simp; omega)) (by first | (simp; done) | (simp; omega)) _ | with_reducible refine Chg.alloc ?_ _ | with_reducible refine Chg.drew ?_)); (with_reducible exact Chg.refl _ _ _)) (by omega)).wide (by omega) (by simp; omega)
      · skip
        have f := XQ5.out.cell
        have ff := XQ5.out.frozen
        have flt := XQ5.out.lt
        have ceXA := XA5.out.cell
        have lbXA := XA5.out.lt
        go_wp2_with fail
        go_meet
        refine ⟨⟨hd.h, s.t, hd.last, hd.vals, hd.next, hd.data⟩, nl, B, d, rfl, ?_, XA5.out.far (by show _ ≠ qq; omega) _, RH5.out.far (by show _ ≠ qq; omega) _, RC5.out.far (by show _ ≠ qq; omega) _, ?_, by omega, OA5.out.chg (lo' := qq) (hi' := qq + 1) (by (repeat (first | with_reducible refine Chg.setCell ?_ (by first | exact Nat.le_refl _ | (simp; done) | (simp; omega)) (by first | (simp; done) | (simp; omega)) _ | with_reducible refine Chg.alloc ?_ _ | with_reducible refine Chg.drew ?_)); (with_reducible exact Chg.refl _ _ _)) (by omega), CH5.out.trans_topT (D := qq) (hi := qq + 1) (by omega) (by (repeat (first | with_reducible refine Chg.setCell ?_ (by first | exact Nat.le_refl _ | (simp; done) | (simp; omega)) (by first | (simp; done) | (simp; omega)) _ | with_reducible refine Chg.alloc ?_ _ | with_reducible refine Chg.drew ?_)); (with_reducible exact Chg.refl _ _ _)), U5.out.chg (lo := qq) (hi := qq + 1) (by (repeat (first | with_reducible refine Chg.setCell ?_ (by first | exact Nat.le_refl _ | (simp; done) | (simp; omega)) (by first | (simp; done) | (simp; omega)) _ | with_reducible refine Chg.alloc ?_ _ | with_reducible refine Chg.drew ?_)); (with_reducible exact Chg.refl _ _ _)) (by omega), by simp; omega⟩
        · have h := XQ5.out.set_ 1 (.int .i64 s.t)
          simp only [List.setIfInBounds_toArray, List.set_cons_zero, List.set_cons_succ] at h
          exact h
        · obtain ⟨ga, gb, o3, b1, b2, b3, b4⟩ := ON5.out.apart XQ5.out (by decide) (by omega)
          refine (OwnL.chg (lo' := qq) (hi' := qq + 1) o3 (by (repeat (first | with_reducible refine Chg.setCell ?_ (by first | exact Nat.le_refl _ | (simp; done) | (simp; omega)) (by first | (simp; done) | (simp; omega)) _ | with_reducible refine Chg.alloc ?_ _ | with_reducible refine Chg.drew ?_)); (with_reducible exact Chg.refl _ _ _)) (by omega)).wide (by omega) (by simp; omega)
      · skip
        go_wp2_with fail
        refine (sShort_text ⟨#[113]⟩ _ (by decide)).mono ?_
        rintro e v6 ⟨v, rfl, ⟨t, rfl, ht⟩, hb⟩
        have hs6 := hb.size
        have XA6 := Lib.hid (XA5.out.below hb XA5.out.lt)
        have RH6 := Lib.hid (RH5.out.below hb RH5.out.lt)
        have RC6 := Lib.hid (RC5.out.below hb RC5.out.lt)
        have CH6 := Lib.hid (CH5.out.below_trans hb)
        have U6 := Lib.hid (U5.out.below hb U5.out.lt (Nat.le_refl _))
        have OA6 := Lib.hid (OA5.out.below hb (by omega))
        have ON6 := Lib.hid (ON5.out.below hb (by omega))
        have XQ6 := Lib.hid (XQ5.out.below hb XQ5.out.lt)
        clear hb XA5 RH5 RC5 CH5 U5 OA5 ON5 XQ5
        have f := XQ6.out.cell
        have ff := XQ6.out.frozen
        have flt := XQ6.out.lt
        have ceXA := XA6.out.cell
        have lbXA := XA6.out.lt
        go_wp2_with fail
        go_meet
        refine ⟨⟨hd.h, hd.t, t, hd.vals, hd.next, hd.data⟩, nl, B, d, rfl, ?_, XA6.out.far (by show _ ≠ qq; omega) _, RH6.out.far (by show _ ≠ qq; omega) _, RC6.out.far (by show _ ≠ qq; omega) _, ?_, by omega, OA6.out.chg (lo' := qq) (hi' := qq + 1) (by (repeat (first | with_reducible refine Chg.setCell ?_ (by first | exact Nat.le_refl _ | (simp; done) | (simp; omega)) (by first | (simp; done) | (simp; omega)) _ | with_reducible refine Chg.alloc ?_ _ | with_reducible refine Chg.drew ?_)); (with_reducible exact Chg.refl _ _ _)) (by omega), CH6.out.trans_topT (D := qq) (hi := qq + 1) (by omega) (by (repeat (first | with_reducible refine Chg.setCell ?_ (by first | exact Nat.le_refl _ | (simp; done) | (simp; omega)) (by first | (simp; done) | (simp; omega)) _ | with_reducible refine Chg.alloc ?_ _ | with_reducible refine Chg.drew ?_)); (with_reducible exact Chg.refl _ _ _)), U6.out.chg (lo := qq) (hi := qq + 1) (by (repeat (first | with_reducible refine Chg.setCell ?_ (by first | exact Nat.le_refl _ | (simp; done) | (simp; omega)) (by first | (simp; done) | (simp; omega)) _ | with_reducible refine Chg.alloc ?_ _ | with_reducible refine Chg.drew ?_)); (with_reducible exact Chg.refl _ _ _)) (by omega), by simp; omega⟩
        · have h := XQ6.out.set_ 2 (.string t)
          simp only [List.setIfInBounds_toArray, List.set_cons_zero, List.set_cons_succ] at h
          exact h
        · obtain ⟨ga, gb, o3, b1, b2, b3, b4⟩ := ON6.out.apart XQ6.out (by decide) (by omega)
          refine (OwnL.chg (lo' := qq) (hi' := qq + 1) o3 (by (repeat (first | with_reducible refine Chg.setCell ?_ (by first | exact Nat.le_refl _ | (simp; done) | (simp; omega)) (by first | (simp; done) | (simp; omega)) _ | with_reducible refine Chg.alloc ?_ _ | with_reducible refine Chg.drew ?_)); (with_reducible exact Chg.refl _ _ _)) (by omega)).wide (by omega) (by simp; omega)
      · skip
        go_wp2_with fail
        refine (sShort_text ⟨#[113]⟩ _ (by decide)).mono ?_
        rintro e v6 ⟨v, rfl, ⟨t, rfl, ht⟩, hb⟩
        have hs6 := hb.size
        have XA6 := Lib.hid (XA5.out.below hb XA5.out.lt)
        have RH6 := Lib.hid (RH5.out.below hb RH5.out.lt)
        have RC6 := Lib.hid (RC5.out.below hb RC5.out.lt)
        have CH6 := Lib.hid (CH5.out.below_trans hb)
        have U6 := Lib.hid (U5.out.below hb U5.out.lt (Nat.le_refl _))
        have OA6 := Lib.hid (OA5.out.below hb (by omega))
        have ON6 := Lib.hid (ON5.out.below hb (by omega))
        have XQ6 := Lib.hid (XQ5.out.below hb XQ5.out.lt)
        clear hb XA5 RH5 RC5 CH5 U5 OA5 ON5 XQ5
        have f := XQ6.out.cell
        have ff := XQ6.out.frozen
        have flt := XQ6.out.lt
        have ceXA := XA6.out.cell
        have lbXA := XA6.out.lt
        go_wp2_with fail
        go_meet
        refine ⟨⟨hd.h, hd.t, hd.last, t, hd.next, hd.data⟩, nl, B, d, rfl, ?_, XA6.out.far (by show _ ≠ qq; omega) _, RH6.out.far (by show _ ≠ qq; omega) _, RC6.out.far (by show _ ≠ qq; omega) _, ?_, by omega, OA6.out.chg (lo' := qq) (hi' := qq + 1) (by (repeat (first | with_reducible refine Chg.setCell ?_ (by first | exact Nat.le_refl _ | (simp; done) | (simp; omega)) (by first | (simp; done) | (simp; omega)) _ | with_reducible refine Chg.alloc ?_ _ | with_reducible refine Chg.drew ?_)); (with_reducible exact Chg.refl _ _ _)) (by omega), CH6.out.trans_topT (D := qq) (hi := qq + 1) (by omega) (by (repeat (first | with_reducible refine Chg.setCell ?_ (by first | exact Nat.le_refl _ | (simp; done) | (simp; omega)) (by first | (simp; done) | (simp; omega)) _ | with_reducible refine Chg.alloc ?_ _ | with_reducible refine Chg.drew ?_)); (with_reducible exact Chg.refl _ _ _)), U6.out.chg (lo := qq) (hi := qq + 1) (by (repeat (first | with_reducible refine Chg.setCell ?_ (by first | exact Nat.le_refl _ | (simp; done) | (simp; omega)) (by first | (simp; done) | (simp; omega)) _ | with_reducible refine Chg.alloc ?_ _ | with_reducible refine Chg.drew ?_)); (with_reducible exact Chg.refl _ _ _)) (by omega), by simp; omega⟩
        · have h := XQ6.out.set_ 3 (.string t)
          simp only [List.setIfInBounds_toArray, List.set_cons_zero, List.set_cons_succ] at h
          exact h
        · obtain ⟨ga, gb, o3, b1, b2, b3, b4⟩ := ON6.out.apart XQ6.out (by decide) (by omega)
          refine (OwnL.chg (lo' := qq) (hi' := qq + 1) o3 (by (repeat (first | with_reducible refine Chg.setCell ?_ (by first | exact Nat.le_refl _ | (simp; done) | (simp; omega)) (by first | (simp; done) | (simp; omega)) _ | with_reducible refine Chg.alloc ?_ _ | with_reducible refine Chg.drew ?_)); (with_reducible exact Chg.refl _ _ _)) (by omega)).wide (by omega) (by simp; omega)
      · skip
        go_wp2_with fail
        refine (l6Any_any cb A n c _ U5.out).mono ?_
        rintro e v6 ⟨nl2, B2, d2, rfl, ho, m0, m1, hg, hu⟩
        have HO := Lib.hid ho
        clear ho
        have hs6 := hg.size
        have XA6 := Lib.hid (show Blk _ _ _ _ from (hg.block _ XA5.out.lt (by omega)).trans XA5.out)
        have RH6 := Lib.hid (show Blk _ _ _ _ from (hg.block _ RH5.out.lt (by omega)).trans RH5.out)
        have RC6 := Lib.hid (show Blk _ _ _ _ from (hg.block _ RC5.out.lt (by omega)).trans RC5.out)
        have CH6 := Lib.hid (CH5.out.trans hg)
        have U6 := Lib.hid (hu)
        have OA6 := Lib.hid (OA5.out.chg hg (by omega))
        have ON6 := Lib.hid (ON5.out.chg hg (by omega))
        have XQ6 := Lib.hid (show Blk _ _ _ _ from (hg.block _ XQ5.out.lt (by omega)).trans XQ5.out)
        clear hg hu XA5 RH5 RC5 CH5 U5 OA5 ON5 XQ5
        have OT6 := HO
        clear HO
        go_wp2_with fail
        go_meet
        exact ⟨hd, nl2, B2, d2, rfl, XQ6.out, XA6.out, RH6.out, RC6.out, OT6.out.wide (by omega) (by omega), m1, OA6.out, CH6.out, U6.out, by omega⟩
      · skip
        have f := XQ5.out.cell
        have ff := XQ5.out.frozen
        have flt := XQ5.out.lt
        have ceXA := XA5.out.cell
        have lbXA := XA5.out.lt
        go_wp2_with fail
        go_meet
        refine ⟨⟨hd.h, hd.t, hd.last, hd.vals, hd.next, ⟨#[97, 97, 97, 97, 97, 97, 97, 97, 97, 97, 97, 97, 97, 97, 97, 97, 97, 97, 97, 97, 97]⟩⟩, nl, B, d, rfl, ?_, XA5.out.far (by show _ ≠ qq; omega) _, RH5.out.far (by show _ ≠ qq; omega) _, RC5.out.far (by show _ ≠ qq; omega) _, ?_, by omega, OA5.out.chg (lo' := qq) (hi' := qq + 1) (by (repeat (first | with_reducible refine Chg.setCell ?_ (by first | exact Nat.le_refl _ | (simp; done) | (simp; omega)) (by first | (simp; done) | (simp; omega)) _ | with_reducible refine Chg.alloc ?_ _ | with_reducible refine Chg.drew ?_)); (with_reducible exact Chg.refl _ _ _)) (by omega), CH5.out.trans_topT (D := qq) (hi := qq + 1) (by omega) (by (repeat (first | with_reducible refine Chg.setCell ?_ (by first | exact Nat.le_refl _ | (simp; done) | (simp; omega)) (by first | (simp; done) | (simp; omega)) _ | with_reducible refine Chg.alloc ?_ _ | with_reducible refine Chg.drew ?_)); (with_reducible exact Chg.refl _ _ _)), U5.out.chg (lo := qq) (hi := qq + 1) (by (repeat (first | with_reducible refine Chg.setCell ?_ (by first | exact Nat.le_refl _ | (simp; done) | (simp; omega)) (by first | (simp; done) | (simp; omega)) _ | with_reducible refine Chg.alloc ?_ _ | with_reducible refine Chg.drew ?_)); (with_reducible exact Chg.refl _ _ _)) (by omega), by simp; omega⟩
        · have h := XQ5.out.set_ 5 (.string ⟨#[97, 97, 97, 97, 97, 97, 97, 97, 97, 97, 97, 97, 97, 97, 97, 97, 97, 97, 97, 97, 97]⟩)
          simp only [List.setIfInBounds_toArray, List.set_cons_zero, List.set_cons_succ] at h
          exact h
        · obtain ⟨ga, gb, o3, b1, b2, b3, b4⟩ := ON5.out.apart XQ5.out (by decide) (by omega)
          refine (OwnL.chg (lo' := qq) (hi' := qq + 1) o3 (by (repeat (first | with_reducible refine Chg.setCell ?_ (by first | exact Nat.le_refl _ | (simp; done) | (simp; omega)) (by first | (simp; done) | (simp; omega)) _ | with_reducible refine Chg.alloc ?_ _ | with_reducible refine Chg.drew ?_)); (with_reducible exact Chg.refl _ _ _)) (by omega)).wide (by omega) (by simp; omega)
  case rest =>
  obtain ⟨hd, nl, B, d, rfl, hbq, hba, hbr, hbc, ho, hnl, hoa, hg, hu, hsz⟩ := hcut
  obtain ⟨v5, hwv⟩ : ∃ z, z = wc := ⟨_, rfl⟩
  subst hwv
  clear XA4 RH4 RC4 CH4 U4 OA4 ON4 XQ4 n0 n1
  have XQ5 := Lib.hid hbq
  have XA5 := Lib.hid hba
  have RH5 := Lib.hid hbr
  have RC5 := Lib.hid hbc
  have ON5 := Lib.hid ho
  have OA5 := Lib.hid hoa
  have CH5 := Lib.hid hg
  have U5 := Lib.hid hu
  have hs5 := hsz
  clear hbq hba hbr hbc ho hoa hg hu hsz
  go_upto_region 17 with fail
  have hids : ∃ (Bi : Option Addr) (di : Nat), (.slice (some ⟨v5.heap.size, 0, none⟩) 0 0 : Value) = .slice Bi ([] : List Int).length di ∧ OwnL intC 1 3 (v5.alloc (.cells #[] 3)) v5.heap.size (v5.alloc (.cells #[] 3)).heap.size Bi ([] : List Int).length di [] := by
    have hrow : (v5.alloc (.cells #[] 3)).ownsRow v5.heap.size 3 1 (.slice (some ⟨v5.heap.size, 0, none⟩) 0 0) ([] : List Int).length (([] : List Int).flatMap intC) := World.ownsRow_lit v5 #[] 0 (Nat.le_refl _) (by decide) rfl
    obtain ⟨A3, c3, e3, hro3⟩ := OwnL.of_own (f := intC) (l := []) rfl hrow
    exact ⟨A3, c3, e3, hro3⟩
  obtain ⟨Bi, di, hie, hio⟩ := hids
  have HIE := Lib.hid hie; have HIO := Lib.hid hio
  clear hie hio
  obtain ⟨v9, hnw⟩ : ∃ zq, zq = v5.alloc (.cells #[] 3) := ⟨_, rfl⟩
  rw [← hnw]
  rw [← hnw] at HIO
  have hb : Below v5.heap.size v5 v9 := by rw [hnw]; exact (Below.refl _ _).alloc (Nat.le_refl _) _
  clear hnw
  have CH9 := Lib.hid ((Chg.refl cb (cb + 1) v5).below_trans hb)
  have U9 := Lib.hid (U5.out.below hb U5.out.lt (Nat.le_refl _))
  have XA9 := Lib.hid (XA5.out.below hb XA5.out.lt)
  clear hb
  have ceXA := XA9.out.cell
  have lbXA := XA9.out.lt
  go_wp2_with fail
  go_loopw [9, 10] (fun o iv wr => ∃ (k : Nat) (ids : List Int) (Bi : Option Addr) (di : Nat), k ≤ l.length ∧ ids.length ≤ k ∧ iv = .int .i64 k ∧ o = .slice Bi ids.length di ∧ OwnL intC 1 3 wr v5.heap.size wr.heap.size Bi ids.length di ids ∧ Chg cb (cb + 1) v5 wr ∧ Cur wr cb A n c) (fun _ iv _ => l.length - (intOf iv).toNat)
  case atStart => exact ⟨0, [], Bi, di, by omega, by simp, rfl, HIE.out, HIO.out, CH9.out, U9.out⟩
  case round =>
    obtain ⟨k, ids, Bi, di, hk, hik, rfl, rfl, ho, hg, hu⟩ := hrel
    obtain ⟨vo, hvo⟩ : ∃ z, z = wr := ⟨_, rfl⟩
    subst hvo
    clear ceXA lbXA XA9 U9 CH9
    have hsr := hg.size
    have OIR := Lib.hid ho
    have HGR := Lib.hid hg
    have UR := Lib.hid hu
    have XAR := Lib.hid (show Blk _ _ _ _ from (hg.block _ XA5.out.lt (by omega)).trans XA5.out)
    have OAR := Lib.hid (OA5.out.chg hg (by omega))
    clear ho hg hu
    have ceXA := XAR.out.cell
    have lbXA := XAR.out.lt
    by_cases hkl : k < l.length
    · go_wp2_with fail
      refine (l1Once_any cb A n c 9 _ UR.out (by omega)).mono ?_
      rintro e w3 ⟨v, rfl, ⟨b, rfl⟩, hg, hu⟩
      have hs3 := hg.size
      have OI3 := Lib.hid ((OIR.out.chg hg (.inr (by omega))).wide (hi' := w3.heap.size) (Nat.le_refl _) hg.size)
      have HG3 := Lib.hid (HGR.out.trans hg)
      have U3 := Lib.hid hu
      have XA3 := Lib.hid (show Blk _ _ _ _ from (hg.block _ XAR.out.lt (by omega)).trans XAR.out)
      have OA3 := Lib.hid (OAR.out.chg hg (by omega))
      clear hg hu OIR HGR UR XAR OAR ceXA lbXA
      have ceXA := XA3.out.cell
      have lbXA := XA3.out.lt
      cases b
      · obtain ⟨b0, off, x, rfl, hb1, hp, c0, c1⟩ := val_cells (OA3.out.rd valC_len) hkl
        clear hp c1
        have k0 : (0 : Int) ≤ k := by omega
        have k1 : (k : Int) < l.length := by omega
        have hbo : b0 < w3.heap.size := by omega
        have hil : ids.length ≤ 8 := by omega
        go_wp2_with (at_builtin; go_must (refine wpList_app_rd _ rfl _ _ _ rfl v5.heap.size 3 i0 _ 1 8 Tryz.underlying42 hi0 hz0 hz1 hz2 rfl (by decide) (.slice Bi ids.length di) ids.length (ids.flatMap intC) rfl (by exact (OI3.out.owns intC_len).alloc _) _ _ 1 1 _ rfl (by exact Rd.oneInt w3 x.id _ (by first | rfl | simp)) (intC_one1 _) (by unfold maxLen; omega) (by omega) (by first | (simp; done) | (simp; omega)) ?_))
        intro vq w5 hown hg hat
        have hroA := (OI3.out.below ((Below.refl _ _).alloc (Nat.le_refl _) (.cells #[.int .i64 x.id] 3)) (Nat.le_refl _)).wide (lo' := v5.heap.size) (hi' := (w3.alloc (.cells #[.int .i64 x.id] 3)).heap.size) (Nat.le_refl _) (by simp)
        have e5 : ids.flatMap intC ++ intC x.id = (ids ++ [x.id]).flatMap intC := by rw [List.flatMap_append]; simp
        rw [e5] at hown
        obtain ⟨A5, c5, rfl, ho5⟩ := OwnL.of_own (f := intC) (n := ids.length + 1) (l := ids ++ [x.id]) (by simp) hown
        have hgc : Chg v5.heap.size (w3.alloc (.cells #[.int .i64 x.id] 3)).heap.size (w3.alloc (.cells #[.int .i64 x.id] 3)) w5 := grown_chg hg fun g e => hroA.block g e
        have U5 := Lib.hid ((U3.out.alloc (.cells #[.int .i64 x.id] 3)).chg hgc (by omega))
        have HO5 := Lib.hid ho5
        have HG5 := Lib.hid ((HG3.out.alloc (.cells #[.int .i64 x.id] 3)).trans_topT (D := v5.heap.size) (by omega) hgc)
        have hs5 : v5.heap.size ≤ w5.heap.size := by have := hgc.size; simp at this; omega
        clear hown hg hat hroA e5 ho5 hgc
        go_wp2_with fail
        go_roundw
        case rel => exact ⟨k + 1, ids ++ [x.id], A5, c5, by omega, by simp; omega, by go_num, by simp, by have h := HO5.out; simpa using h, HG5.out, U5.out⟩
        case measure => simp [intOf]; omega
      · go_wp2_with fail
        go_roundw
        case rel => exact ⟨k + 1, ids, Bi, di, by omega, by omega, by go_num, rfl, OI3.out, HG3.out, U3.out⟩
        case measure => simp [intOf]; omega
    · have hsl : ids.length ≤ 8 := by omega
      clear hk hik
      have hbb := hsr
      obtain ⟨kq, hkq⟩ : ∃ z : Nat, z = k := ⟨_, rfl⟩
      have XQR := Lib.hid (show Blk _ _ _ _ from (HGR.out.block _ XQ5.out.lt (by omega)).trans XQ5.out)
      have RHR := Lib.hid (show Blk _ _ _ _ from (HGR.out.block _ RH5.out.lt (by omega)).trans RH5.out)
      have RCR := Lib.hid (show Blk _ _ _ _ from (HGR.out.block _ RC5.out.lt (by omega)).trans RC5.out)
      have ONR := Lib.hid (ON5.out.chg HGR.out (by omega))
      have CHR := Lib.hid (CH5.out.trans HGR.out)
      clear HGR
      go_upto_region 22 with fail
      clear ceXA lbXA
      have zq := XQR.out.cell
      have ltq := XQR.out.lt
      go_region_with (first
        | (go_at_call 34; (refine (l1Below_any cb A n c 3 _ (by exact UR.out.drew) (by omega)).mono ?_); rintro e w6 ⟨v, rfl, ⟨rr, rfl, r0, r1⟩, hg, hu⟩; have hg : Chg cb (cb + 1) vo w6 := (Chg.refl cb (cb + 1) vo).drew.trans hg; have G6 := Lib.hid hg; have U6 := Lib.hid hu; have hs6 := hg.size; have z6 : ∀ o, w6.cell? ⟨qq, o, none⟩ = _ := fun o => (hg.cell (k := qq) (by omega) (.inr (by omega))).trans (zq o); clear hg hu)
        | (go_at_call 65; (refine (l9For_any hd rr Bi di ids _ (by exact ((OIR.out.chg G6.out (by omega)).rd intC_len).more (by omega)) (by omega)).mono ?_); rintro e w7 ⟨sg, D, q, rfl, ho, hsq, hb⟩; have O7 := Lib.hid ho; have B7 := Lib.hid hb; have hs7 := hb.size; have z7 : ∀ o, w7.cell? ⟨qq, o, none⟩ = _ := fun o => (hb.cell (p := ⟨qq, o, none⟩) (by show qq < w6.heap.size; omega)).trans (z6 o);
            have RH7 : Blk w7 (w.heap.size + 1) 27 #[.int .i64 0, .int .i64 0, .string ⟨#[]⟩, .string ⟨#[]⟩, .string ⟨#[]⟩, .string ⟨#[]⟩] := (hb.block _ (by omega)).trans ((G6.out.block _ RHR.out.lt (by omega)).trans RHR.out); have RC7 : Blk w7 (w.heap.size + 1 + 1) 33 #[.int .i64 0, .int .i64 0, .string ⟨#[]⟩, .slice none 0 0] := (hb.block _ (by omega)).trans ((G6.out.block _ RCR.out.lt (by omega)).trans RCR.out); have rh := RH7.cell; have rhf := RH7.frozen; have rhl := RH7.lt; have rc := RC7.cell; have rcf := RC7.frozen; have rcl := RC7.lt; clear ho hb))
      all_goals
        go_wp2_with fail
        refine bodyPost_ret (v := .tuple #[.agg #[.int .i64 hd.h, .int .i64 hd.t, .string hd.last, .string hd.vals, .string hd.next, .string hd.data], .slice B nl.length d, .agg #[.int .i64 hd.h, .int .i64 rr, .string (headIdB hd), .slice D sg.length q]]) (by simp [results, Tryz.results33, go_sem, rh, rc]) rfl ⟨hd, nl, B, d, ⟨hd.h, rr, headIdB hd⟩, sg, D, q, rfl, ?_, by omega, ?_, by omega, ?_, ?_⟩
        · have h7 := (ONR.out.chg G6.out (by omega)).below B7.out (by omega)
          refine (OwnL.chg (lo' := w.heap.size) (hi' := w.heap.size + 3) h7 (by (repeat (first | with_reducible refine Chg.setCell ?_ (by first | exact Nat.le_refl _ | (simp; done) | (simp; omega)) (by first | (simp; done) | (simp; omega)) _ | with_reducible refine Chg.alloc ?_ _ | with_reducible refine Chg.drew ?_)); (with_reducible exact Chg.refl _ _ _)) (by omega)).wide (by omega) (by simp; omega)
        · refine (OwnL.chg (lo' := w.heap.size) (hi' := w.heap.size + 3) O7.out (by (repeat (first | with_reducible refine Chg.setCell ?_ (by first | exact Nat.le_refl _ | (simp; done) | (simp; omega)) (by first | (simp; done) | (simp; omega)) _ | with_reducible refine Chg.alloc ?_ _ | with_reducible refine Chg.drew ?_)); (with_reducible exact Chg.refl _ _ _)) (by omega)).wide (by omega) (by simp)
        · refine ((CHR.out.trans G6.out).below_trans B7.out).trans_topT (D := w.heap.size) (hi := w.heap.size + 3) (by omega) (by (repeat (first | with_reducible refine Chg.setCell ?_ (by first | exact Nat.le_refl _ | (simp; done) | (simp; omega)) (by first | (simp; done) | (simp; omega)) _ | with_reducible refine Chg.alloc ?_ _ | with_reducible refine Chg.drew ?_)); (with_reducible exact Chg.refl _ _ _))
        · refine (U6.out.below B7.out (by omega) (Nat.le_refl _)).chg (lo := w.heap.size) (hi := w.heap.size + 3) (by (repeat (first | with_reducible refine Chg.setCell ?_ (by first | exact Nat.le_refl _ | (simp; done) | (simp; omega)) (by first | (simp; done) | (simp; omega)) _ | with_reducible refine Chg.alloc ?_ _ | with_reducible refine Chg.drew ?_)); (with_reducible exact Chg.refl _ _ _)) (by omega)
end Go.Proofs.YtelnnegfkdfpiaaGreatDoor
