/- The program's StoreGet returns what the reference's returns, for all arguments. No conditions. -/
import Derived.Test.YtjdknaipmboekaaDoorStoreFam
import Derived.Test.YtjdknaipmboekaaDoorElHeader
import Derived.Test.YtjdknaipmboekaaDoorCard
import Derived.Test.YtjdknaipmboekaaDoorStoreGet
import Derived.Test.YtjdknaipmboekaaDoorL
import Derived.Deep.RegionWith
import Derived.Deep.DeepCutAuto

namespace Go.Proofs.YtjdknaipmboekaaDoor
open Go.ChangeShapes Go.WideShapes Go.ChangeAt Go.RowKit Go.Joins

set_option maxRecDepth 100000 in
set_option maxHeartbeats 8000000 in
theorem ExactStoreGet_walk (s : Int) (A : Option Addr) (c : Nat) (l : List HeaderD) (k1 : Int) (w : World) (hl : RdL headC 6 w w.heap.size A l.length c l) (hs : ∀ x ∈ l, x.last.size ≤ maxLen ∧ x.vals.size ≤ maxLen ∧ x.next.size ≤ maxLen ∧ x.data.size ≤ maxLen) (ht : Tab w) :
    Calls Tryd.prog 4 #[.agg #[.slice A l.length c, .int .i64 s], .int .i64 k1] w fun e w' => e = .returned (.bool true) ∧ Below w.heap.size w w' := by
  have HT := Lib.hid ht
  clear ht
  obtain ⟨g, kv, hSP, hIM⟩ : ∃ (g : HeaderD) (kv : Bool), (∀ (w : World) (A : Option Addr) (c : Nat), RdL headC 6 w w.heap.size A l.length c l → Calls Tryd.prog 15 #[.agg #[.slice A l.length c, .int .i64 s], .int .i64 k1] w fun e w' => e = .returned (.tuple #[.agg #[.int .i64 g.h, .int .i64 g.t, .string g.last, .string g.vals, .string g.next, .string g.data], .bool kv]) ∧ Below w.heap.size w w') ∧
      (∀ (w : World) (A : Option Addr) (c : Nat), RdL headC 6 w w.heap.size A l.length c l → Tab w → Calls Tryd.prog 16 #[.agg #[.slice A l.length c, .int .i64 s], .int .i64 k1] w fun e w' => e = .returned (.tuple #[.agg #[.int .i64 g.h, .int .i64 g.t, .string g.last, .string g.vals, .string g.next, .string g.data], .bool kv]) ∧ Below w.heap.size w w') :=
    ⟨_, _, fun w A c h => sStoreGet_any s A c l k1 w h, fun w A c h ht => StoreGet_any s A c l k1 w h ht⟩
  have HL := Lib.hid hl
  have HSP := Lib.hid hSP
  have HIM := Lib.hid hIM
  have hn := hl.le
  clear hl hSP hIM
  go_enter Tryd.func4, Tryd.ntmps4
  go_wp2_with fail
  refine (szStore_any s A _ c _ l _ (?_) hs (by decide) (by decide)).mono ?_
  · refine RdL.more (B := w.heap.size) ?_ (by first | exact Nat.le_refl _ | (simp; done) | omega | (simp; omega))
    refine RdL.alloc ?_ (by first | exact Nat.le_refl _ | (simp; done) | omega | (simp; omega)) _
    exact HL.out
  rintro e w1 ⟨r, rfl, hr1, hr2, hr3, hb⟩
  have hs1 := hb.size
  (try simp only [World.size_alloc] at hs1)
  have C1 := Lib.hid (((Chg.refl w.heap.size w.heap.size w).alloc _).below_trans hb)
  have ya1 : ∀ o, w1.cell? ⟨w.heap.size, o, none⟩ = _ := fun o => hb.cell (p := ⟨w.heap.size, o, none⟩) (by first | exact Nat.le_refl _ | (simp; done) | omega | (simp; omega))
  have pa1 : w.heap.size < w1.heap.size := by omega
  have B1 : Hid (Below w.heap.size w w1) := C1.out.below (Nat.le_refl _) (Nat.le_refl _)
  clear hb
  by_cases hr : r < 0
  · go_wp2_with fail
    go_ret
    exact ⟨rfl, B1.out⟩
  have hn1 : l.length ≤ 1048576 := by have := hr1 (by omega); omega
  have hr0 : 0 ≤ r := by omega
  clear hr1 hr2 hr3
  go_wp2_with fail
  refine (toStore_any s A l.length c l _ (?_) (by omega)).mono ?_
  · refine RdL.more (B := w1.heap.size) ?_ (by first | exact Nat.le_refl _ | (simp; done) | omega | (simp; omega))
    exact (HL.out.below B1.out (Nat.le_refl _)).more B1.out.size
  rintro e w2 ⟨At, nt, ct, rfl, ho, hb⟩
  have hs2 := hb.size
  have C2 := Lib.hid ((Chg.refl w.heap.size w.heap.size w1).below_trans hb)
  have ya2 : ∀ o, w2.cell? ⟨w.heap.size, o, none⟩ = _ := fun o => (C2.out.cell (by omega) (by omega)).trans (ya1 o)
  clear ya1
  have pa2 : w.heap.size < w2.heap.size := by omega
  have B2 : Hid (Below w.heap.size w w2) := B1.out.trans (C2.out.below (by omega) (by omega))
  clear hb
  obtain rfl : l.length = nt := ho.1
  have Ot2 := Lib.hid (ho.wide (lo' := w1.heap.size) (by first | exact Nat.le_refl _ | (simp; done) | (simp; omega)) (Nat.le_refl _))
  clear ho
  go_wp2_with fail
  refine (HSP.out _ At ct (?_)).mono ?_
  · refine RdL.more (B := w2.heap.size) ?_ (by first | exact Nat.le_refl _ | (simp; done) | omega | (simp; omega))
    exact Ot2.out.rd headC_len
  rintro e w3 ⟨rfl, hb⟩
  have hs3 := hb.size
  have C3 := Lib.hid ((Chg.refl w.heap.size w.heap.size w2).below_trans hb)
  have ya3 : ∀ o, w3.cell? ⟨w.heap.size, o, none⟩ = _ := fun o => (C3.out.cell (by omega) (by omega)).trans (ya2 o)
  clear ya2
  have pa3 : w.heap.size < w3.heap.size := by omega
  have B3 : Hid (Below w.heap.size w w3) := B2.out.trans (C3.out.below (by omega) (by omega))
  have Ot3 := Lib.hid (Ot2.out.chg C3.out (by omega))
  clear Ot2
  clear hb
  clear Ot3
  go_wp2_with fail
  refine (toStore_any s A l.length c l _ (?_) (by omega)).mono ?_
  · refine RdL.more (B := w3.heap.size) ?_ (by first | exact Nat.le_refl _ | (simp; done) | omega | (simp; omega))
    refine RdL.alloc ?_ (by first | exact Nat.le_refl _ | (simp; done) | omega | (simp; omega)) _
    exact (HL.out.below B3.out (Nat.le_refl _)).more B3.out.size
  rintro e w4 ⟨Ax, nx, cx, rfl, ho, hb⟩
  have hs4 := hb.size
  (try simp only [World.size_alloc] at hs4)
  have C4 := Lib.hid (((Chg.refl w.heap.size w.heap.size w3).alloc _).below_trans hb)
  have ya4 : ∀ o, w4.cell? ⟨w.heap.size, o, none⟩ = _ := fun o => (C4.out.cell (by omega) (by omega)).trans (ya3 o)
  have yw4 : ∀ o, w4.cell? ⟨w3.heap.size, o, none⟩ = _ := fun o => hb.cell (p := ⟨w3.heap.size, o, none⟩) (by first | exact Nat.le_refl _ | (simp; done) | omega | (simp; omega))
  clear ya3
  have pa4 : w.heap.size < w4.heap.size := by omega
  have pw4 : w3.heap.size < w4.heap.size := by omega
  have B4 : Hid (Below w.heap.size w w4) := B3.out.trans (C4.out.below (by omega) (by omega))
  clear hb
  obtain rfl : l.length = nx := ho.1
  have Ox4 := Lib.hid (ho.wide (lo' := w3.heap.size + 1) (by first | exact Nat.le_refl _ | (simp; done) | (simp; omega)) (Nat.le_refl _))
  clear ho
  go_wp2_with fail
  refine (HIM.out _ Ax cx (?_) (?_)).mono ?_
  · refine RdL.more (B := w4.heap.size) ?_ (by first | exact Nat.le_refl _ | (simp; done) | omega | (simp; omega))
    refine RdL.alloc ?_ (by first | exact Nat.le_refl _ | (simp; done) | omega | (simp; omega)) _
    exact Ox4.out.rd headC_len
  · refine HT.out.below (B := w.heap.size) ?_ HT.out.pos
    refine Below.alloc ?_ (by first | exact Nat.le_refl _ | (simp; done) | omega | (simp; omega)) _
    exact B4.out
  rintro e w5 ⟨rfl, hb⟩
  have hs5 := hb.size
  (try simp only [World.size_alloc] at hs5)
  have C5 := Lib.hid (((Chg.refl w.heap.size w.heap.size w4).alloc _).below_trans hb)
  have ya5 : ∀ o, w5.cell? ⟨w.heap.size, o, none⟩ = _ := fun o => (C5.out.cell (by omega) (by omega)).trans (ya4 o)
  have yw5 : ∀ o, w5.cell? ⟨w3.heap.size, o, none⟩ = _ := fun o => (C5.out.cell (by omega) (by omega)).trans (yw4 o)
  have yx5 : ∀ o, w5.cell? ⟨w4.heap.size, o, none⟩ = _ := fun o => hb.cell (p := ⟨w4.heap.size, o, none⟩) (by first | exact Nat.le_refl _ | (simp; done) | omega | (simp; omega))
  clear ya4 yw4
  have pa5 : w.heap.size < w5.heap.size := by omega
  have pw5 : w3.heap.size < w5.heap.size := by omega
  have px5 : w4.heap.size < w5.heap.size := by omega
  have B5 : Hid (Below w.heap.size w w5) := B4.out.trans (C5.out.below (by omega) (by omega))
  have Ox5 := Lib.hid (Ox4.out.chg C5.out (by omega))
  clear Ox4
  clear hb
  go_wp2_with fail
  refine (eqHeader_same g.h g.t g.last g.vals g.next g.data _).mono ?_
  rintro e w6 ⟨rfl, hb⟩
  have hs6 := hb.size
  (try simp only [World.size_alloc] at hs6)
  have C6 := Lib.hid (((Chg.refl w.heap.size w.heap.size w5).alloc _).below_trans hb)
  have ya6 : ∀ o, w6.cell? ⟨w.heap.size, o, none⟩ = _ := fun o => (C6.out.cell (by omega) (by omega)).trans (ya5 o)
  have yw6 : ∀ o, w6.cell? ⟨w3.heap.size, o, none⟩ = _ := fun o => (C6.out.cell (by omega) (by omega)).trans (yw5 o)
  have yx6 : ∀ o, w6.cell? ⟨w4.heap.size, o, none⟩ = _ := fun o => (C6.out.cell (by omega) (by omega)).trans (yx5 o)
  have yg6 : ∀ o, w6.cell? ⟨w5.heap.size, o, none⟩ = _ := fun o => hb.cell (p := ⟨w5.heap.size, o, none⟩) (by first | exact Nat.le_refl _ | (simp; done) | omega | (simp; omega))
  clear ya5 yw5 yx5
  have pa6 : w.heap.size < w6.heap.size := by omega
  have pw6 : w3.heap.size < w6.heap.size := by omega
  have px6 : w4.heap.size < w6.heap.size := by omega
  have pg6 : w5.heap.size < w6.heap.size := by omega
  have B6 : Hid (Below w.heap.size w w6) := B5.out.trans (C6.out.below (by omega) (by omega))
  have Ox6 := Lib.hid (Ox5.out.chg C6.out (by omega))
  clear Ox5
  clear hb
  go_upto_region 10 with fail
  go_cut [44] (fun sx wx => sx = .bool false ∧ Below w6.heap.size w6 wx)
  case first =>
    go_region_with (first
      | (go_at_call 12; (refine (toStore_any s A l.length c l _ (by exact (((HL.out.below B6.out (Nat.le_refl _)).more B6.out.size))) (by omega)).mono ?_); rintro e wr ⟨A6, n6, c6, rfl, ho, hb6⟩; have hb6 : Below w6.heap.size w6 wr := ⟨hb6.os, hb6.tape, hb6.output, hb6.size, hb6.block⟩; obtain rfl : l.length = n6 := ho.1; have R6 := Lib.hid (ho.rd headC_len); have R7 := Lib.hid ((Ox6.out.rd headC_len).below hb6 (by show w4.heap.size ≤ w6.heap.size; omega)); clear ho; have z6 : ∀ o, wr.cell? ⟨w4.heap.size, o, none⟩ = _ := (fun o => (hb6.cell (p := ⟨w4.heap.size, o, none⟩) (by show w4.heap.size < w6.heap.size; omega)).trans (yx6 o)); have G6 := Lib.hid hb6; clear hb6)
      | (go_at_call 14; (refine (eqStore_same s Ax _ cx A6 c6 l _ (by exact (R7.out.more (by have h6 : w6.heap.size ≤ wr.heap.size := G6.out.size; omega))) (by exact R6.out)).mono ?_); rintro e ws ⟨rfl, hb7⟩; have G7 := Lib.hid hb7; clear hb7))
    all_goals
      go_wp2_with fail
      go_meet
      exact ⟨rfl, G6.out.trans (G7.out.mono G6.out.size)⟩
  case rest =>
  obtain ⟨rfl, hb⟩ := hcut
  have hs7 := hb.size
  have C7 := Lib.hid ((Chg.refl w.heap.size w.heap.size w6).below_trans hb)
  have ya7 : ∀ o, wc.cell? ⟨w.heap.size, o, none⟩ = _ := fun o => (C7.out.cell (by omega) (by omega)).trans (ya6 o)
  have yw7 : ∀ o, wc.cell? ⟨w3.heap.size, o, none⟩ = _ := fun o => (C7.out.cell (by omega) (by omega)).trans (yw6 o)
  have yx7 : ∀ o, wc.cell? ⟨w4.heap.size, o, none⟩ = _ := fun o => (C7.out.cell (by omega) (by omega)).trans (yx6 o)
  have yg7 : ∀ o, wc.cell? ⟨w5.heap.size, o, none⟩ = _ := fun o => (C7.out.cell (by omega) (by omega)).trans (yg6 o)
  clear ya6 yw6 yx6 yg6
  have pa7 : w.heap.size < wc.heap.size := by omega
  have pw7 : w3.heap.size < wc.heap.size := by omega
  have px7 : w4.heap.size < wc.heap.size := by omega
  have pg7 : w5.heap.size < wc.heap.size := by omega
  have B7 : Hid (Below w.heap.size w wc) := B6.out.trans (C7.out.below (by omega) (by omega))
  have Ox7 := Lib.hid (Ox6.out.chg C7.out (by omega))
  clear Ox6
  clear hb
  obtain ⟨w7, hwc⟩ : ∃ q, q = wc := ⟨_, rfl⟩
  subst hwc
  go_wp2_with fail
  go_ret
  exact ⟨rfl, B7.out⟩

set_option maxRecDepth 100000 in
set_option maxHeartbeats 2000000 in
theorem ExactStoreGet_lifted (os : Os) (started : os.Started) (H : Type) (enc : TypeId × Value → H) :
    ReturnsInHanded {} Tryd.checked os 4 .any (fun w args => (Rows.fnExactStoreGetSpec.pre enc Tryd.prog Tryd.f4 Rows.fnExactStoreGetRow.domain false w args ∧ laidMet Tryd.prog Rows.fnExactStoreGetRow.laid w) ∧ sizedMet enc Tryd.prog Tryd.f4 (OpenSpec.ofChange Rows.fnExactStoreGetSpec) false w args)
      (Rows.fnExactStoreGetSpec.post enc Tryd.prog Tryd.f4 false true false false) := by
  refine returnsInHanded_of_change_and (C := Tryd.checked) (X := fun w _ => laidMet Tryd.prog Rows.fnExactStoreGetRow.laid w) (fun _ _ _ hh h => h.of_heap hh) own started (by kernel_rfl) Tryd.func4
    (ChangeSpec.witness_at (enc := enc) (C := Tryd.checked) (os := os) (X := fun w _ => laidMet Tryd.prog Rows.fnExactStoreGetRow.laid w) false (tabWorld os) #[.agg #[.slice none 0 0, .int .i64 0], .int .i64 0] 8 rfl (by kernel_rfl) (by kernel_rfl) (by kernel_rfl) (by kernel_rfl) (by kernel_rfl) (tabWorld_met os _)) ?_
  intro W base args ds gs before hval0 hW hcnd _ hL _
  have hval : ∀ (j : Nat) t v, Tryd.f4.params[j]? = some t → args[j]? = some v → Value.okWide Tryd.prog W .any base t v := hval0
  have hW' := hW
  obtain ⟨p, q, hA0, hV, rfl, hfz, hnd⟩ := hW
  have hA : DataW.TrodAll enc Tryd.prog W 0 (fun _ => true) true Tryd.f4.params.toList args.toList ds p := hA0
  rw [Tryd.params4] at hA hval
  have ht := tab_of_laid hL
  obtain ⟨v0, vs0, d0, ds0, p0, q0, hargs, rfl, rfl, h0, r0⟩ := trodAll_cons hA
  obtain ⟨v1, vs1, d1, ds1, p1, q1, rfl, rfl, rfl, h1, r1⟩ := trodAll_cons r0
  obtain ⟨rfl, rfl, rfl⟩ := trodAll_nil r1
  obtain rfl : args = #[v0, v1] := by cases args; simp_all
  obtain ⟨cs, rfl, hlen, m, hf⟩ := agg_fields Tryd.underlying24 (hval 0 24 v0 rfl rfl) h0
  obtain ⟨c0, c1, rfl⟩ := list2 (hlen.trans (by kernel_rfl : Tryd.prog.cellsOf 24 = 2))
  obtain ⟨y0, g0⟩ := hf 0 _ rfl
  obtain ⟨y1, g1⟩ := hf 1 _ rfl
  obtain ⟨A, n, c, rfl, l, hl, hs⟩ := open_listP (Pr := fun x => x.last.size ≤ maxLen ∧ x.vals.size ≤ maxLen ∧ x.next.size ≤ maxLen ∧ x.data.size ≤ maxLen) Tryd.underlying22 (by kernel_rfl) (by decide) headC_len (fun cs y n h => head_el h) g0
  obtain ⟨a1, rfl, _, _⟩ := field_int Tryd.underlying3 g1
  obtain rfl : l.length = n := hl.1
  obtain ⟨k1, rfl, rfl, rfl, _⟩ := open_int Tryd.underlying3 (hval 1 3 v1 rfl rfl) h1
  refine (ExactStoreGet_walk a1 A c l k1 W hl hs ht).mono fun r W' ⟨hr, hb⟩ => ?_
  subst hr
  exact ⟨_, rfl, law_post1 (f := Tryd.f4) (tb := 4) (t := 88) rfl Tryd.underlying4 rfl (by kernel_rfl) (by kernel_rfl) (by kernel_rfl) (fun d => rfl) (fun d => rfl) (fun d => rfl) hW' hb⟩

theorem ExactStoreGet_row : Rows.FnExactStoreGetSaid :=
  OpenClaim.holds_of_wide 4 Tryd.f4 rfl rfl rfl rfl rfl rfl rfl ⟨rfl, rfl, rfl, rfl, rfl⟩ rfl rfl rfl rfl rfl (by kernel_rfl) Tryd.func4 (by kernel_rfl)
    (of_decide_eq_true (by kernel_rfl)) (by unfold Func.isWrapper; first | (rw [if_pos (by decide +kernel)]; kernel_rfl) | (rw [if_neg (by decide +kernel)]; exact ⟨rfl, rfl⟩))
    (fun os started H enc _ => ExactStoreGet_lifted os started H enc)

theorem ExactStoreGet_holds : Rows.FnExactStoreGetCardSaid :=
  Claim7.holds_tied_plain_at .later [] [.data] true Rows.fnExactStoreGetCard.stood.harness false
    ExactStoreGet_row (fun _ h => by cases h) (by kernel_rfl) (fun _ h => by cases h) fnExactStoreGet_row_tie rfl ⟨rfl, rfl⟩ (by kernel_rfl) rfl
    (fun f fn hf hfn => by
      obtain rfl : f = 4 := Option.some.inj ((show Tryd.prog.funcNamed "loop.example/g00946/laws.FnExactStoreGet" = some 4 by kernel_rfl).symm.trans hf) |>.symm
      obtain rfl : fn = Tryd.f4 := (Option.some.inj (Tryd.func4.symm.trans hfn)).symm
      exact ⟨by kernel_rfl, fun j t ht => by
        rw [Tryd.params4] at ht
        have h3 : t = 24 ∨ t = 3 := by
          rcases j with _ | _ | j
          · exact .inl (by simpa using ht.symm)
          · exact .inr (by simpa using ht.symm)
          · simp at ht
        rcases h3 with h3 | h3
        · subst h3
          exact (show Tryd.prog.wantsStandIn 24 = false by kernel_rfl)
        · subst h3
          exact (show Tryd.prog.wantsStandIn 3 = false by kernel_rfl)⟩)
    (by kernel_rfl)
#print axioms ExactStoreGet_holds
end Go.Proofs.YtjdknaipmboekaaDoor
