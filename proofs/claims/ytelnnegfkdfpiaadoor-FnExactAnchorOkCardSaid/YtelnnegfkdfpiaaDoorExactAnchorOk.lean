/- The program's AnchorOk returns what the reference's returns, for all arguments. No conditions. -/
import Derived.Test.YtelnnegfkdfpiaaDoorAnchorFam
import Derived.Test.YtelnnegfkdfpiaaDoorElHeader
import Derived.Test.YtelnnegfkdfpiaaDoorElVal
import Derived.Test.YtelnnegfkdfpiaaDoorCard
import Derived.Test.YtelnnegfkdfpiaaDoorAnchorFam
import Derived.Test.YtelnnegfkdfpiaaDoorL
import Derived.Deep.RegionWith
import Derived.Deep.DeepCutAuto

namespace Go.Proofs.YtelnnegfkdfpiaaDoor
open Go.ChangeShapes Go.WideShapes Go.ChangeAt Go.RowKit Go.Joins

set_option maxRecDepth 100000 in
set_option maxHeartbeats 8000000 in
theorem ExactAnchorOk_walk (s : HeaderD) (A : Option Addr) (c : Nat) (l : List ValD) (w : World) (hl : RdL valC 2 w w.heap.size A l.length c l) (s1 : s.last.size ≤ maxLen) (s2 : s.vals.size ≤ maxLen) (s3 : s.next.size ≤ maxLen) (s4 : s.data.size ≤ maxLen) (ht : Tab w) :
    Calls Tryd.prog 3 #[.agg #[.int .i64 s.h, .int .i64 s.t, .string s.last, .string s.vals, .string s.next, .string s.data, .slice A l.length c]] w fun e w' => e = .returned (.bool true) ∧ Below w.heap.size w w' := by
  have HT := Lib.hid ht
  clear ht
  have HL := Lib.hid hl
  have hn := hl.le
  clear hl
  obtain ⟨kv, hkv⟩ : ∃ kv, kv = anchorB s l := ⟨_, rfl⟩
  have HK := Lib.hid hkv
  clear hkv
  go_enter Tryd.func3, Tryd.ntmps3
  go_wp2_with fail
  refine (szAnchor_any s A _ c _ l _ (?_) s1 s2 s3 s4 (by decide) (by decide)).mono ?_
  · refine RdL.more (B := w.heap.size) ?_ (by first | exact Nat.le_refl _ | (simp; done) | omega | (simp; omega))
    refine RdL.alloc ?_ (by first | exact Nat.le_refl _ | (simp; done) | omega | (simp; omega)) _
    exact HL.out
  rintro e w1 ⟨r, rfl, hr1, hr2, hr3, hb⟩
  have hs1 := hb.size
  (try simp only [World.size_alloc] at hs1)
  have C1 := Lib.hid (((Chg.refl w.heap.size w.heap.size w).alloc _).below_trans hb)
  have ya1 : ∀ o, w1.cell? ⟨w.heap.size, o, none⟩ = _ := fun o => hb.cell (p := ⟨w.heap.size, o, none⟩) (by first | exact Nat.le_refl _ | (simp; done) | omega | (simp; omega))
  have pa1 : w.heap.size < w1.heap.size := by omega
  have B1 : Hid (Below w.heap.size w w1) := C1.out.below (Nat.le_refl _) (Nat.le_refl _)
  clear hb
  by_cases hr : r < 0
  · go_wp2_with fail
    go_ret
    exact ⟨rfl, B1.out⟩
  have hn1 : l.length ≤ 1048576 := by have := hr1 (by omega); omega
  have hr0 : 0 ≤ r := by omega
  clear hr1 hr2 hr3
  go_wp2_with fail
  refine (toAnchor_any s A l.length c l _ (?_) (by omega)).mono ?_
  · refine RdL.more (B := w1.heap.size) ?_ (by first | exact Nat.le_refl _ | (simp; done) | omega | (simp; omega))
    exact (HL.out.below B1.out (Nat.le_refl _)).more B1.out.size
  rintro e w2 ⟨At, nt, ct, rfl, ho, hb⟩
  have hs2 := hb.size
  have C2 := Lib.hid ((Chg.refl w.heap.size w.heap.size w1).below_trans hb)
  have ya2 : ∀ o, w2.cell? ⟨w.heap.size, o, none⟩ = _ := fun o => (C2.out.cell (by omega) (by omega)).trans (ya1 o)
  clear ya1
  have pa2 : w.heap.size < w2.heap.size := by omega
  have B2 : Hid (Below w.heap.size w w2) := B1.out.trans (C2.out.below (by omega) (by omega))
  clear hb
  obtain rfl : l.length = nt := ho.1
  have Ot2 := Lib.hid (ho.wide (lo' := w1.heap.size) (by first | exact Nat.le_refl _ | (simp; done) | (simp; omega)) (Nat.le_refl _))
  clear ho
  go_wp2_with fail
  refine (sAnchorOk_any s At _ ct l _ (?_)).mono ?_
  · refine RdL.more (B := w2.heap.size) ?_ (by first | exact Nat.le_refl _ | (simp; done) | omega | (simp; omega))
    exact Ot2.out.rd valC_len
  rw [← HK.out]
  rintro e w3 ⟨rfl, hb⟩
  have hs3 := hb.size
  have C3 := Lib.hid ((Chg.refl w.heap.size w.heap.size w2).below_trans hb)
  have ya3 : ∀ o, w3.cell? ⟨w.heap.size, o, none⟩ = _ := fun o => (C3.out.cell (by omega) (by omega)).trans (ya2 o)
  clear ya2
  have pa3 : w.heap.size < w3.heap.size := by omega
  have B3 : Hid (Below w.heap.size w w3) := B2.out.trans (C3.out.below (by omega) (by omega))
  have Ot3 := Lib.hid (Ot2.out.chg C3.out (by omega))
  clear Ot2
  clear hb
  clear Ot3
  go_wp2_with fail
  refine (toAnchor_any s A l.length c l _ (?_) (by omega)).mono ?_
  · refine RdL.more (B := w3.heap.size) ?_ (by first | exact Nat.le_refl _ | (simp; done) | omega | (simp; omega))
    exact (HL.out.below B3.out (Nat.le_refl _)).more B3.out.size
  rintro e w4 ⟨Ax, nx, cx, rfl, ho, hb⟩
  have hs4 := hb.size
  have C4 := Lib.hid ((Chg.refl w.heap.size w.heap.size w3).below_trans hb)
  have ya4 : ∀ o, w4.cell? ⟨w.heap.size, o, none⟩ = _ := fun o => (C4.out.cell (by omega) (by omega)).trans (ya3 o)
  clear ya3
  have pa4 : w.heap.size < w4.heap.size := by omega
  have B4 : Hid (Below w.heap.size w w4) := B3.out.trans (C4.out.below (by omega) (by omega))
  clear hb
  obtain rfl : l.length = nx := ho.1
  have Ox4 := Lib.hid (ho.wide (lo' := w3.heap.size) (by first | exact Nat.le_refl _ | (simp; done) | (simp; omega)) (Nat.le_refl _))
  clear ho
  go_wp2_with fail
  refine (AnchorOk_any s Ax _ cx l _ (?_) (?_)).mono ?_
  · refine RdL.more (B := w4.heap.size) ?_ (by first | exact Nat.le_refl _ | (simp; done) | omega | (simp; omega))
    refine RdL.alloc ?_ (by first | exact Nat.le_refl _ | (simp; done) | omega | (simp; omega)) _
    exact Ox4.out.rd valC_len
  · refine HT.out.below (B := w.heap.size) ?_ HT.out.pos
    refine Below.alloc ?_ (by first | exact Nat.le_refl _ | (simp; done) | omega | (simp; omega)) _
    exact B4.out
  rw [← HK.out]
  rintro e w5 ⟨rfl, hb⟩
  have hs5 := hb.size
  (try simp only [World.size_alloc] at hs5)
  have C5 := Lib.hid (((Chg.refl w.heap.size w.heap.size w4).alloc _).below_trans hb)
  have ya5 : ∀ o, w5.cell? ⟨w.heap.size, o, none⟩ = _ := fun o => (C5.out.cell (by omega) (by omega)).trans (ya4 o)
  have yx5 : ∀ o, w5.cell? ⟨w4.heap.size, o, none⟩ = _ := fun o => hb.cell (p := ⟨w4.heap.size, o, none⟩) (by first | exact Nat.le_refl _ | (simp; done) | omega | (simp; omega))
  clear ya4
  have pa5 : w.heap.size < w5.heap.size := by omega
  have px5 : w4.heap.size < w5.heap.size := by omega
  have B5 : Hid (Below w.heap.size w w5) := B4.out.trans (C5.out.below (by omega) (by omega))
  have Ox5 := Lib.hid (Ox4.out.chg C5.out (by omega))
  clear Ox4
  clear hb
  go_upto_region 10 with fail
  go_cut [26] (fun sx wx => sx = .bool false ∧ Below w5.heap.size w5 wx)
  case first =>
    go_region_with (first
      | (go_at_call 6; (refine (toAnchor_any s A l.length c l _ (by exact (((HL.out.below B5.out (Nat.le_refl _)).more B5.out.size))) (by omega)).mono ?_); rintro e wr ⟨A6, n6, c6, rfl, ho, hb6⟩; have hb6 : Below w5.heap.size w5 wr := ⟨hb6.os, hb6.tape, hb6.output, hb6.size, hb6.block⟩; obtain rfl : l.length = n6 := ho.1; have R6 := Lib.hid (ho.rd valC_len); have R7 := Lib.hid ((Ox5.out.rd valC_len).below hb6 (by show w4.heap.size ≤ w5.heap.size; omega)); clear ho; have z6 : ∀ o, wr.cell? ⟨w4.heap.size, o, none⟩ = _ := (fun o => (hb6.cell (p := ⟨w4.heap.size, o, none⟩) (by show w4.heap.size < w5.heap.size; omega)).trans (yx5 o)); have G6 := Lib.hid hb6; clear hb6)
      | (go_at_call 8; (refine (eqAnchor_same s Ax _ cx A6 c6 l _ (by exact (R7.out.more (by have h6 : w5.heap.size ≤ wr.heap.size := G6.out.size; omega))) (by exact R6.out)).mono ?_); rintro e ws ⟨rfl, hb7⟩; have G7 := Lib.hid hb7; clear hb7))
    all_goals
      go_wp2_with fail
      go_meet
      exact ⟨rfl, G6.out.trans (G7.out.mono G6.out.size)⟩
  case rest =>
  obtain ⟨rfl, hb⟩ := hcut
  have hs6 := hb.size
  have C6 := Lib.hid ((Chg.refl w.heap.size w.heap.size w5).below_trans hb)
  have ya6 : ∀ o, wc.cell? ⟨w.heap.size, o, none⟩ = _ := fun o => (C6.out.cell (by omega) (by omega)).trans (ya5 o)
  have yx6 : ∀ o, wc.cell? ⟨w4.heap.size, o, none⟩ = _ := fun o => (C6.out.cell (by omega) (by omega)).trans (yx5 o)
  clear ya5 yx5
  have pa6 : w.heap.size < wc.heap.size := by omega
  have px6 : w4.heap.size < wc.heap.size := by omega
  have B6 : Hid (Below w.heap.size w wc) := B5.out.trans (C6.out.below (by omega) (by omega))
  have Ox6 := Lib.hid (Ox5.out.chg C6.out (by omega))
  clear Ox5
  clear hb
  obtain ⟨w6, hwc⟩ : ∃ q, q = wc := ⟨_, rfl⟩
  subst hwc
  go_wp2_with fail
  go_ret
  exact ⟨rfl, B6.out⟩

set_option maxRecDepth 100000 in
set_option maxHeartbeats 2000000 in
theorem ExactAnchorOk_lifted (os : Os) (started : os.Started) (H : Type) (enc : TypeId × Value → H) :
    ReturnsInHanded {} Tryd.checked os 3 .any (fun w args => (Rows.fnExactAnchorOkSpec.pre enc Tryd.prog Tryd.f3 Rows.fnExactAnchorOkRow.domain false w args ∧ laidMet Tryd.prog Rows.fnExactAnchorOkRow.laid w) ∧ sizedMet enc Tryd.prog Tryd.f3 (OpenSpec.ofChange Rows.fnExactAnchorOkSpec) false w args)
      (Rows.fnExactAnchorOkSpec.post enc Tryd.prog Tryd.f3 false true false false) := by
  refine returnsInHanded_of_change_and (C := Tryd.checked) (X := fun w _ => laidMet Tryd.prog Rows.fnExactAnchorOkRow.laid w) (fun _ _ _ hh h => h.of_heap hh) own started (by kernel_rfl) Tryd.func3
    (ChangeSpec.witness_at (enc := enc) (C := Tryd.checked) (os := os) (X := fun w _ => laidMet Tryd.prog Rows.fnExactAnchorOkRow.laid w) false (tabWorld os) #[.agg #[.int .i64 0, .int .i64 0, .string ⟨#[]⟩, .string ⟨#[]⟩, .string ⟨#[]⟩, .string ⟨#[]⟩, .slice none 0 0]] 8 rfl (by kernel_rfl) (by kernel_rfl) (by kernel_rfl) (by kernel_rfl) (by kernel_rfl) (tabWorld_met os _)) ?_
  intro W base args ds gs before hval0 hW hcnd _ hL _
  have hval : ∀ (j : Nat) t v, Tryd.f3.params[j]? = some t → args[j]? = some v → Value.okWide Tryd.prog W .any base t v := hval0
  have hW' := hW
  obtain ⟨p, q, hA0, hV, rfl, hfz, hnd⟩ := hW
  have hA : DataW.TrodAll enc Tryd.prog W 0 (fun _ => true) true Tryd.f3.params.toList args.toList ds p := hA0
  rw [Tryd.params3] at hA hval
  have ht := tab_of_laid hL
  obtain ⟨v0, vs0, d0, ds0, p0, q0, hargs, rfl, rfl, h0, r0⟩ := trodAll_cons hA
  obtain ⟨rfl, rfl, rfl⟩ := trodAll_nil r0
  obtain rfl : args = #[v0] := by cases args; simp_all
  obtain ⟨cs, rfl, hlen, m, hf⟩ := agg_fields Tryd.underlying26 (hval 0 26 v0 rfl rfl) h0
  obtain ⟨c0, c1, c2, c3, c4, c5, c6, rfl⟩ := list7 (hlen.trans (by kernel_rfl : Tryd.prog.cellsOf 26 = 7))
  obtain ⟨y0, g0⟩ := hf 0 _ rfl
  obtain ⟨y1, g1⟩ := hf 1 _ rfl
  obtain ⟨s, he, s1, s2, s3, s4⟩ := head_el g0
  have he' : [c0, c1, c2, c3, c4, c5] = headC s := he
  simp only [headC, List.cons.injEq, and_true] at he'
  obtain ⟨rfl, rfl, rfl, rfl, rfl, rfl⟩ := he'
  obtain ⟨A, n, c, rfl, l, hl⟩ := open_list Tryd.underlying24 (by kernel_rfl) (by decide) valC_len (fun cs y n h => val_el h) g1
  obtain rfl : l.length = n := hl.1
  refine (ExactAnchorOk_walk s A c l W hl s1 s2 s3 s4 ht).mono fun r W' ⟨hr, hb⟩ => ?_
  subst hr
  exact ⟨_, rfl, law_post1 (f := Tryd.f3) (tb := 4) (t := 65) rfl Tryd.underlying4 rfl (by kernel_rfl) (by kernel_rfl) (by kernel_rfl) (fun d => rfl) (fun d => rfl) (fun d => rfl) hW' hb⟩

theorem ExactAnchorOk_row : Rows.FnExactAnchorOkSaid :=
  OpenClaim.holds_of_wide 3 Tryd.f3 rfl rfl rfl rfl rfl rfl rfl ⟨rfl, rfl, rfl, rfl, rfl⟩ rfl rfl rfl rfl rfl (by kernel_rfl) Tryd.func3 (by kernel_rfl)
    (of_decide_eq_true (by kernel_rfl)) (by unfold Func.isWrapper; first | (rw [if_pos (by decide +kernel)]; kernel_rfl) | (rw [if_neg (by decide +kernel)]; exact ⟨rfl, rfl⟩))
    (fun os started H enc _ => ExactAnchorOk_lifted os started H enc)

theorem ExactAnchorOk_holds : Rows.FnExactAnchorOkCardSaid :=
  Claim7.holds_tied_plain_at .later [] [.data] true Rows.fnExactAnchorOkCard.stood.harness false
    ExactAnchorOk_row (fun _ h => by cases h) (by kernel_rfl) (fun _ h => by cases h) fnExactAnchorOk_row_tie rfl ⟨rfl, rfl⟩ (by kernel_rfl) rfl
    (fun f fn hf hfn => by
      obtain rfl : f = 3 := Option.some.inj ((show Tryd.prog.funcNamed "loop.example/g00946/laws.FnExactAnchorOk" = some 3 by kernel_rfl).symm.trans hf) |>.symm
      obtain rfl : fn = Tryd.f3 := (Option.some.inj (Tryd.func3.symm.trans hfn)).symm
      exact ⟨by kernel_rfl, fun j t ht => by
        rw [Tryd.params3] at ht
        have h3 : t = 26 := by
          rcases j with _ | j
          · exact (by simpa using ht.symm)
          · simp at ht
        rcases h3 with h3
        · subst h3
          exact (show Tryd.prog.wantsStandIn 26 = false by kernel_rfl)⟩)
    (by kernel_rfl)
#print axioms ExactAnchorOk_holds
end Go.Proofs.YtelnnegfkdfpiaaDoor
