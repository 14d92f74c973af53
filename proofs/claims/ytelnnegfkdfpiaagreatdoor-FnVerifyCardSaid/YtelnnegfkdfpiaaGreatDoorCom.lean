/- CommitVals of the program and of the reference. -/
import Derived.Test.YtelnnegfkdfpiaaGreatDoorVerPure
import Derived.Test.YtelnnegfkdfpiaaGreatDoorComFam
import Derived.WalkKit
import Derived.WalkSpells
import Derived.WalkLawsBesides
import Derived.Lib.Hide
namespace Go.Proofs.YtelnnegfkdfpiaaGreatDoor
open Go.RowKit

def IntsOut (l : List Int) (w : World) (e : Ending) (w' : World) : Prop :=
  ∃ A c, e = .returned (.slice A l.length c) ∧ RdL intC 1 w' w'.heap.size A l.length c l ∧ Below w.heap.size w w'

set_option maxRecDepth 100000 in
set_option maxHeartbeats 4000000 in
theorem CommitVals_any (p : ComD) (A : Option Addr) (n c : Nat) (l : List CSigD) (w : World) (hl : RdL csigC 2 w w.heap.size A n c l) (ht : Tab w) :
    Calls Tryz.prog 95 #[.agg #[.int .i64 p.h, .int .i64 p.r, .string p.id, .slice A n c]] w (IntsOut (cvL p l) w) := by
  obtain ⟨i0, hi, hz0, hz1, hz2⟩ := info_parts infoInt
  have hn := hl.le
  have HL := Lib.hid hl
  have HT := Lib.hid ht
  have htp := ht.pos
  have H0 := Lib.hid hl.1
  clear hl ht
  by_cases h12 : 12 < n
  · have HE : Hid (cvL p l = []) := cv_many (by rw [H0.out]; exact h12)
    have h12' : (12 : Int) < n := by omega
    go_enter Tryz.func95, Tryz.ntmps95
    go_wp2_with fail
    go_ret
    rw [HE.out]
    exact ⟨none, 0, rfl, ⟨rfl, Rd.nil _ _ _⟩, (by repeat (first | exact Below.refl _ _ | assumption | refine Below.drew ?_ | refine belN ?_ _ | refine Below.alloc ?_ (by first | exact Nat.le_refl _ | (simp; done) | (simp; omega) | omega) _ | refine Below.setCell ?_ (by first | exact Nat.le_refl _ | (simp; done) | (simp; omega) | omega) _ | refine Below.trans ?_ (Below.mono (by assumption) (by first | exact Nat.le_refl _ | (simp; done) | (simp; omega) | omega))))⟩
  have HE : Hid (cvL p l = Lib.compact (sortI (cvR p l l.length))) := cv_few (by rw [H0.out]; exact h12)
  have h12' : ¬ (12 : Int) < n := by omega
  go_enter Tryz.func95, Tryz.ntmps95
  go_upto_region 1 with fail
  obtain ⟨wb, hwb⟩ : ∃ q, q = w.alloc (.cells #[.int .i64 p.h, .int .i64 p.r, .string p.id, .slice A n c] 33) := ⟨_, rfl⟩
  rw [← hwb]
  have hbx : Blk wb w.heap.size 33 #[.int .i64 p.h, .int .i64 p.r, .string p.id, .slice A n c] := by rw [hwb]; exact heap_alloc_new w _
  have HB0 : Hid (Below w.heap.size w wb) := by show Below _ _ _; rw [hwb]; exact (Below.refl _ _).alloc (Nat.le_refl _) _
  clear hwb
  have hzb := hbx.lt
  have HX := Lib.hid hbx
  have y3 := hbx.cell 3
  clear hbx
  go_wp2_with fail
  clear y3
  go_loopw [3, 14] (fun o i wr => ∃ k : Nat, k ≤ n ∧ i = .int .i64 k ∧ wr.ownsRow wb.heap.size 3 1 o (cvR p l k).length ((cvR p l k).flatMap intC) ∧ Below wb.heap.size wb wr) (fun _ i _ => n - (intOf i).toNat)
  case atStart => exact ⟨0, by omega, rfl, by simpa [cvR] using World.ownsRow_lit wb #[] 0 (Nat.le_refl _) (by decide) rfl, (by repeat (first | exact Below.refl _ _ | assumption | refine Below.drew ?_ | refine belN ?_ _ | refine Below.alloc ?_ (by first | exact Nat.le_refl _ | (simp; done) | (simp; omega) | omega) _ | refine Below.setCell ?_ (by first | exact Nat.le_refl _ | (simp; done) | (simp; omega) | omega) _ | refine Below.trans ?_ (Below.mono (by assumption) (by first | exact Nat.le_refl _ | (simp; done) | (simp; omega) | omega))))⟩
  case round =>
    obtain ⟨k, hk, rfl, hown, hb⟩ := hrel
    have HO := Lib.hid hown; clear hown
    have hz : wb.heap.size ≤ wr.heap.size := hb.size
    have HB := Lib.hid hb
    have hbl := cvR_len p l k
    clear hb
    by_cases hkn : k < n
    · obtain ⟨b, off, x, rfl, hb1, hp, c0, c1⟩ := csig_cells ((HL.out.below HB0.out (Nat.le_refl _)).below HB.out (by omega)) hkn
      have HS := Lib.hid (cvR_next (p := p) hp)
      clear hp
      go_upto_region 7 with fail
      obtain ⟨w1, hw1⟩ : ∃ q, q = wr.alloc (.cells #[.int .i64 x.v, .string x.sig] 91) := ⟨_, rfl⟩
      rw [← hw1]
      have HB1 : Hid (Below wb.heap.size wb w1) := by show Below _ _ _; rw [hw1]; exact HB.out.alloc hz _
      have ho1 := HO.out.alloc (.cells #[.int .i64 x.v, .string x.sig] 91)
      rw [← hw1] at ho1
      have HO1 := Lib.hid ho1
      clear ho1
      have hbk : Blk w1 wr.heap.size 91 #[.int .i64 x.v, .string x.sig] := by rw [hw1]; exact heap_alloc_new wr _
      have x0 := hbk.cell 0
      have x1 := hbk.cell 1
      have hs1 := hbk.lt
      have hbc : Blk w1 w.heap.size 33 #[.int .i64 p.h, .int .i64 p.r, .string p.id, .slice (some ⟨b, off, none⟩) n c] := HX.out.below HB1.out hzb
      have y0 := hbc.cell 0
      have y1 := hbc.cell 1
      have y2 := hbc.cell 2
      have hsc := hbc.lt
      clear hw1 c0 c1 hbk hbc
      have HSG : ∀ wx : World, Tab wx → Hid (Calls Tryz.prog 106 #[.agg #[.int .i64 p.h, .int .i64 p.r, .int .i64 2, .string p.id, .int .i64 x.v], .string x.sig] wx fun e w' => e = .returned (.bool (cvB p x)) ∧ Below wx.heap.size wx w') := fun wx h => Signed_any (cvV p x.v) x.sig wx h
      cases hq : cvB p x
      · have HG : Hid (cvR p l (k + 1) = cvR p l k) := by show _ = _; rw [HS.out, hq]; simp
        rw [hq] at HSG
        clear hq
        generalize cvR p l k = fs at *
        go_wp2_with fail
        refine ((HSG _ (by exact (HT.out.below HB0.out htp).below HB1.out (by omega))).out).mono ?_
        rintro e w2 ⟨rfl, hb2⟩
        have HB2 := Lib.hid (HB1.out.trans (hb2.mono (by omega)))
        have HO2 := Lib.hid (own_keep HO1.out hb2 (Nat.le_refl _))
        clear hb2
        go_wp2_with fail
        go_roundw
        case rel => exact ⟨k + 1, by omega, by go_num, by rw [HG.out]; exact HO2.out, HB2.out⟩
        case measure => simp [intOf]; omega
      · have HG : Hid (cvR p l (k + 1) = cvR p l k ++ [x.v]) := by show _ = _; rw [HS.out, hq]; simp
        rw [hq] at HSG
        clear hq
        generalize cvR p l k = fs at *
        go_wp2_with fail
        refine ((HSG _ (by exact (HT.out.below HB0.out htp).below HB1.out (by omega))).out).mono ?_
        rintro e w2 ⟨rfl, hb2⟩
        have HB2 := Lib.hid (HB1.out.trans (hb2.mono (by omega)))
        have HO2 := Lib.hid (own_keep HO1.out hb2 (Nat.le_refl _))
        have z0 := (hb2.cell (p := ⟨wr.heap.size, 0, none⟩) hs1).trans x0
        have hs2 := hb2.size
        have hys : wr.heap.size < w2.heap.size := by omega
        have hwz : wb.heap.size ≤ w2.heap.size := by omega
        clear hb2 x0 x1 y0 y1 y2
        go_wp2_with (at_builtin; go_must (refine wpList_app_rd _ rfl _ _ _ rfl wb.heap.size 3 i0 _ 1 8 Tryz.underlying42 hi hz0 hz1 hz2 rfl (by decide) _ _ _ rfl (by exact HO2.out.alloc _) _ _ 1 1 _ rfl (by exact (Rd_oneI _ #[.int .i64 x.v] 3 1 rfl _ (by simp))) (by simp [Value.oneCell']) (by unfold maxLen; omega) (by omega) (by first | with_reducible exact Nat.le_refl _ | (simp; done) | (simp; omega)) ?_))
        intro v' w3 hown' hgrow _
        have HB3 := Lib.hid ((HB2.out.alloc (by omega) _).grown hgrow (by simp; omega) (fun g hg => (HO2.out.lt g hg).1))
        have HO3 := Lib.hid hown'
        clear hown' hgrow
        go_wp2
        go_roundw
        case rel => exact ⟨k + 1, by omega, by go_num, by rw [HG.out]; simpa [intC] using HO3.out, HB3.out⟩
        case measure => simp [intOf]; omega
    · obtain rfl : k = n := by omega
      have HE2 : Hid (cvL p l = Lib.compact (sortI (cvR p l k))) := by show _ = _; rw [HE.out, H0.out]
      generalize cvR p l k = fs at *
      go_wp2_with fail
      refine (Sort_own wb.heap.size _ fs _ HO.out (by omega)).mono ?_
      rintro e w2 ⟨rfl, ho2, hg2⟩
      have HB2 := Lib.hid (HB.out.grown hg2 (by omega) (fun g hg => (HO.out.lt g hg).1))
      rw [← sortI_len fs] at ho2
      have HO2 := Lib.hid ho2
      have hl2 := sortI_len fs
      clear ho2 hg2
      go_wp2_with fail
      refine (Compact_own wb.heap.size _ (sortI fs) _ HO2.out (by omega)).mono ?_
      rintro e w3 ⟨v', rfl, ho3, hg3⟩
      have HB3 := Lib.hid (HB2.out.grown hg3 (by have := HB2.out.size; omega) (fun g hg => (HO2.out.lt g hg).1))
      obtain ⟨A3, c3', rfl, ho⟩ := OwnL.of_own rfl ho3
      have HO3 := Lib.hid ho
      clear ho3 hg3 ho
      go_wp2_with fail
      go_ret
      rw [HE2.out]
      exact ⟨A3, c3', rfl, HO3.out.rd intC_len, HB0.out.trans (HB3.out.mono HB0.out.size)⟩

theorem l9Vote_any (p : ComD) (A : Option Addr) (n c : Nat) (v : Int) (w : World) :
    Calls Tryz.prog 53 #[.agg #[.int .i64 p.h, .int .i64 p.r, .string p.id, .slice A n c], .int .i64 v] w fun e w' => e = .returned (.agg #[.int .i64 p.h, .int .i64 p.r, .int .i64 2, .string p.id, .int .i64 v]) ∧ Below w.heap.size w w' := by
  go_enter Tryz.func53, Tryz.ntmps53
  go_wp2_with fail
  refine bodyPost_ret (v := .agg #[.int .i64 p.h, .int .i64 p.r, .int .i64 2, .string p.id, .int .i64 v]) (by simp [results, Tryz.results53, go_sem]) rfl ⟨rfl, ?_⟩
  (repeat (first | with_reducible refine Below.setCell ?_ (by first | exact Nat.le_refl _ | (simp; done) | (simp; omega)) _ | with_reducible refine Below.alloc ?_ (by first | exact Nat.le_refl _ | (simp; done) | (simp; omega)) _ | with_reducible refine Below.drew ?_)); (with_reducible exact Below.refl _ _)

set_option maxRecDepth 100000 in
set_option maxHeartbeats 8000000 in
theorem sCommitVals_any (p : ComD) (A : Option Addr) (n c : Nat) (l : List CSigD) (w : World) (hl : RdL csigC 2 w w.heap.size A n c l) :
    Calls Tryz.prog 13 #[.agg #[.int .i64 p.h, .int .i64 p.r, .string p.id, .slice A n c]] w (IntsOut (cvL p l) w) := by
  obtain ⟨i0, hi, hz0, hz1, hz2⟩ := info_parts infoInt
  have hn := hl.le
  have HL := Lib.hid hl
  have H0 := Lib.hid hl.1
  clear hl
  by_cases h12 : 12 < n
  · have HE : Hid (cvL p l = []) := cv_many (by rw [H0.out]; exact h12)
    have h12' : (12 : Int) < n := by omega
    go_enter Tryz.func13, Tryz.ntmps13
    go_wp2_with fail
    obtain ⟨A3, c3', he, ho⟩ := OwnL.of_own (f := intC) (l := []) rfl (show ((w.alloc (.cells #[.int .i64 p.h, .int .i64 p.r, .string p.id, .slice A n c] 33)).alloc (.cells #[] 3)).ownsRow (w.heap.size + 1) 3 1 (.slice (some ⟨w.heap.size + 1, 0, none⟩) 0 0) 0 ([].flatMap intC) by simpa using World.ownsRow_lit (w.alloc (.cells #[.int .i64 p.h, .int .i64 p.r, .string p.id, .slice A n c] 33)) #[] 0 (Nat.le_refl _) (by decide) rfl)
    simp only [Value.slice.injEq, List.length_nil, true_and] at he
    obtain ⟨rfl, rfl⟩ := he
    go_ret
    rw [HE.out]
    exact ⟨_, _, rfl, (ho.rd intC_len), (by repeat (first | exact Below.refl _ _ | assumption | refine Below.drew ?_ | refine belN ?_ _ | refine Below.alloc ?_ (by first | exact Nat.le_refl _ | (simp; done) | (simp; omega) | omega) _ | refine Below.setCell ?_ (by first | exact Nat.le_refl _ | (simp; done) | (simp; omega) | omega) _ | refine Below.trans ?_ (Below.mono (by assumption) (by first | exact Nat.le_refl _ | (simp; done) | (simp; omega) | omega))))⟩
  have HE : Hid (cvL p l = csS p l 99) := cv_spec (by rw [H0.out]; exact h12)
  have h12' : ¬ (12 : Int) < n := by omega
  go_enter Tryz.func13, Tryz.ntmps13
  go_upto_region 1 with fail
  obtain ⟨wb, hwb⟩ : ∃ q, q = w.alloc (.cells #[.int .i64 p.h, .int .i64 p.r, .string p.id, .slice A n c] 33) := ⟨_, rfl⟩
  rw [← hwb]
  have hbx : Blk wb w.heap.size 33 #[.int .i64 p.h, .int .i64 p.r, .string p.id, .slice A n c] := by rw [hwb]; exact heap_alloc_new w _
  have HB0 : Hid (Below w.heap.size w wb) := by show Below _ _ _; rw [hwb]; exact (Below.refl _ _).alloc (Nat.le_refl _) _
  clear hwb
  have hzb := hbx.lt
  have HX := Lib.hid hbx
  have y3 := hbx.cell 3
  clear hbx
  go_wp2_with fail
  clear y3
  go_loopw [3, 4] (fun o i wr => ∃ k : Nat, k ≤ 99 ∧ i = .int .i64 ((k : Int) + 1) ∧ wr.ownsRow wb.heap.size 3 1 o (csS p l k).length ((csS p l k).flatMap intC) ∧ Below wb.heap.size wb wr) (fun _ i _ => 100 - (intOf i).toNat)
  case atStart => exact ⟨0, by omega, rfl, by simpa [csS] using World.ownsRow_lit wb #[] 0 (Nat.le_refl _) (by decide) rfl, (by repeat (first | exact Below.refl _ _ | assumption | refine Below.drew ?_ | refine belN ?_ _ | refine Below.alloc ?_ (by first | exact Nat.le_refl _ | (simp; done) | (simp; omega) | omega) _ | refine Below.setCell ?_ (by first | exact Nat.le_refl _ | (simp; done) | (simp; omega) | omega) _ | refine Below.trans ?_ (Below.mono (by assumption) (by first | exact Nat.le_refl _ | (simp; done) | (simp; omega) | omega))))⟩
  case round =>
    obtain ⟨k, hk, rfl, hown, hb⟩ := hrel
    obtain ⟨wo, hwo⟩ : ∃ q, q = wr := ⟨_, rfl⟩
    subst hwo
    have HO := Lib.hid hown; clear hown
    have hz : wb.heap.size ≤ wo.heap.size := hb.size
    have HB := Lib.hid hb
    have hbl := csS_len p l k
    clear hb
    by_cases hkn : k < 99
    · have HS := Lib.hid (csS_succ p l k)
      obtain ⟨v, hv⟩ : ∃ v : Int, v = (k : Int) + 1 := ⟨_, rfl⟩
      rw [← hv]
      rw [← hv] at HS
      have hv1 : v ≤ 99 := by omega
      have hv0 : 1 ≤ v := by omega
      have HV := Lib.hid hv
      clear hv
      go_wp2_with fail
      go_loopw [5, 6] (fun s i wr => ∃ j : Nat, j ≤ n ∧ i = .int .i64 j ∧ s = .bool (csB p l v j) ∧ Below wo.heap.size wo wr) (fun _ i _ => n - (intOf i).toNat)
      case atStart => exact ⟨0, by omega, rfl, by rw [csB_zero], Below.refl _ _⟩
      case round =>
        obtain ⟨j, hj, rfl, rfl, hb⟩ := hrel
        have hzr := hb.size
        have HBr := Lib.hid (HB.out.trans (hb.mono hz))
        have HBo := Lib.hid hb
        clear hb
        have hbc : Blk wr w.heap.size 33 #[.int .i64 p.h, .int .i64 p.r, .string p.id, .slice A n c] := HX.out.below HBr.out hzb
        have y0 := hbc.cell 0
        have y1 := hbc.cell 1
        have y2 := hbc.cell 2
        have y3 := hbc.cell 3
        have hsc := hbc.lt
        clear hbc
        by_cases hjn : j < n
        · obtain ⟨b, off, x, rfl, hb1, hp, c0, c1⟩ := csig_cells ((HL.out.below HB0.out (Nat.le_refl _)).below HBr.out (by omega)) hjn
          have HN := Lib.hid (csB_succ (p := p) (v := v) hp)
          clear hp
          have hbo : b < wr.heap.size := by omega
          have k0 : (0 : Int) ≤ j := by omega
          have k1 : (j : Int) < n := by omega
          have HSG : ∀ wx : World, Hid (Calls Tryz.prog 52 #[.agg #[.int .i64 p.h, .int .i64 p.r, .int .i64 2, .string p.id, .int .i64 v], .string x.sig] wx fun e w' => e = .returned (.bool (signedB (cvV p v) x.sig)) ∧ Below wx.heap.size wx w') := fun wx => sSigned_any (cvV p v) x.sig wx
          generalize signedB (cvV p v) x.sig = sg at *
          generalize csB p l v j = q0 at *
          cases q0
          · cases g1 : (x.v == v)
            · have HF : Hid (csB p l v (j + 1) = false) := by show _ = _; rw [HN.out, g1]; rfl
              go_wp2_with fail
              refine wp_region_below (by kernel_rfl) (by kernel_rfl) ?_
              repeat (first | go_big_quiet_skip | (go_big_quiet_want; go_big_quiet_op; first | go_big_quiet_on | (apply Exists.intro; refine ⟨fun w1 hC => ?_, ?_⟩; (focus (first | rfl | (go_at_call 53; exact quiet_below hC (l9Vote_any p _ _ _ _ _)) | (go_at_call 52; exact quiet_below hC ((HSG _).out)) | (simp [(bcell hC).1, hsc, hbo, y3, c0]; done) | (simp [(bcell hC).1, hsc, hbo, y3, c0]; rfl))); go_big_quiet_on)))
              refine wpQuiet_nil ?_
              intro w2 hb2
              obtain ⟨hc2, hf2, hz2⟩ := bcell hb2
              go_wp2_with fail
              go_roundw
              case rel => exact ⟨j + 1, by omega, by go_num, by rw [HF.out], HBo.out.trans (hb2.mono hzr)⟩
              case measure => simp [intOf]; omega
            · have HF : Hid (csB p l v (j + 1) = sg) := by show _ = _; rw [HN.out, g1]; simp
              go_wp2_with fail
              refine wp_region_below (by kernel_rfl) (by kernel_rfl) ?_
              repeat (first | go_big_quiet_skip | (go_big_quiet_want; go_big_quiet_op; first | go_big_quiet_on | (apply Exists.intro; refine ⟨fun w1 hC => ?_, ?_⟩; (focus (first | rfl | (go_at_call 53; exact quiet_below hC (l9Vote_any p _ _ _ _ _)) | (go_at_call 52; exact quiet_below hC ((HSG _).out)) | (simp [(bcell hC).1, hsc, hbo, y0, y1, y2, y3, c0, c1]; done) | (simp [(bcell hC).1, hsc, hbo, y0, y1, y2, y3, c0, c1]; rfl))); go_big_quiet_on)))
              refine wpQuiet_nil ?_
              intro w2 hb2
              obtain ⟨hc2, hf2, hz2⟩ := bcell hb2
              go_wp2_with fail
              go_roundw
              case rel => exact ⟨j + 1, by omega, by go_num, by rw [HF.out], HBo.out.trans (hb2.mono hzr)⟩
              case measure => simp [intOf]; omega
          · have HF : Hid (csB p l v (j + 1) = true) := by show _ = _; rw [HN.out]; rfl
            go_wp2_with fail
            refine wp_region_below (by kernel_rfl) (by kernel_rfl) ?_
            repeat (first | go_big_quiet_skip | (go_big_quiet_want; go_big_quiet_op; first | go_big_quiet_on | (apply Exists.intro; refine ⟨fun w1 hC => ?_, ?_⟩; (focus (first | rfl | (go_at_call 53; exact quiet_below hC (l9Vote_any p _ _ _ _ _)) | (go_at_call 52; exact quiet_below hC ((HSG _).out)) | (simp [(bcell hC).1, hsc, hbo, y0, y1, y2, y3, c0, c1, k0, k1]; done) | (simp [(bcell hC).1, hsc, hbo, y0, y1, y2, y3, c0, c1, k0, k1]; rfl))); go_big_quiet_on)))
            refine wpQuiet_nil ?_
            intro w2 hb2
            obtain ⟨hc2, hf2, hz2⟩ := bcell hb2
            go_wp2_with fail
            go_roundw
            case rel => exact ⟨j + 1, by omega, by go_num, by rw [HF.out], HBo.out.trans (hb2.mono hzr)⟩
            case measure => simp [intOf]; omega
        · obtain rfl : j = n := by omega
          have HO2 := Lib.hid (own_keep HO.out HBo.out (Nat.le_refl _))
          rw [H0.out] at HS
          generalize csB p l v j = q0 at *
          generalize csS p l k = fs at *
          cases q0
          · have HG : Hid (csS p l (k + 1) = fs) := by show _ = _; rw [HS.out]; simp
            go_wp2_with fail
            go_roundw
            case rel => exact ⟨k + 1, by omega, by rw [show ((k + 1 : Nat) : Int) = v from by rw [HV.out]; omega], by rw [HG.out]; exact HO2.out, HBr.out⟩
            case measure => have := HV.out; simp [intOf]; omega
          · have HG : Hid (csS p l (k + 1) = fs ++ [v]) := by show _ = _; rw [HS.out]; simp
            clear y0 y1 y2
            go_wp2_with (at_builtin; go_must (refine wpList_app_rd _ rfl _ _ _ rfl wb.heap.size 3 i0 _ 1 8 Tryz.underlying42 hi hz0 hz1 hz2 rfl (by decide) _ _ _ rfl (by exact HO2.out.alloc _) _ _ 1 1 _ rfl (by exact (Rd_oneI _ #[.int .i64 v] 3 1 rfl _ (by simp))) (by simp [Value.oneCell']) (by unfold maxLen; omega) (by omega) (by first | with_reducible exact Nat.le_refl _ | (simp; done) | (simp; omega)) ?_))
            intro v' w3 hown' hgrow _
            have HB3 := Lib.hid ((HBr.out.alloc (by omega) _).grown hgrow (by simp; omega) (fun g hg => (HO2.out.lt g hg).1))
            have HO3 := Lib.hid hown'
            clear hown' hgrow
            go_wp2
            go_roundw
            case rel => exact ⟨k + 1, by omega, by rw [show ((k + 1 : Nat) : Int) = v from by rw [HV.out]; omega], by rw [HG.out]; simpa [intC] using HO3.out, HB3.out⟩
            case measure => have := HV.out; simp [intOf]; omega
    · obtain rfl : k = 99 := by omega
      obtain ⟨A3, c3', rfl, ho⟩ := OwnL.of_own rfl HO.out
      have HO3 := Lib.hid ho
      clear ho
      go_wp2_with fail
      go_ret
      rw [HE.out]
      exact ⟨A3, c3', rfl, HO3.out.rd intC_len, HB0.out.trans (HB.out.mono HB0.out.size)⟩
end Go.Proofs.YtelnnegfkdfpiaaGreatDoor
