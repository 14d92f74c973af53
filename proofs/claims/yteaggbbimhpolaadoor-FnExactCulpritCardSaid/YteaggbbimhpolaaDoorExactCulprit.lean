/- The program's Culprit returns what the reference's returns, for all arguments. No conditions but the card's: the table of the hash is as the program's text lays it. -/
import Derived.Test.YteaggbbimhpolaaDoorElEvid
import Derived.Test.YteaggbbimhpolaaDoorCard
namespace Go.Proofs.YteaggbbimhpolaaDoor
open Go.ChangeShapes Go.WideShapes Go.ChangeAt Go.RowKit Go.Joins

set_option maxHeartbeats 1000000 in
theorem ExactCulprit_walk (e : EvD) (w : World) (ht : Tab w) (h1 : e.a.id.size ≤ maxLen) (h2 : e.sa.size ≤ maxLen) (h3 : e.b.id.size ≤ maxLen) (h4 : e.sb.size ≤ maxLen) :
    Calls Tryd.prog 4 #[.agg #[.int .i64 e.a.h, .int .i64 e.a.r, .int .i64 e.a.st, .string e.a.id, .int .i64 e.a.v, .string e.sa, .int .i64 e.b.h, .int .i64 e.b.r, .int .i64 e.b.st, .string e.b.id, .int .i64 e.b.v, .string e.sb]] w fun r w' => r = .returned (.bool true) ∧ Below w.heap.size w w' := by
  have HT := Lib.hid ht
  obtain ⟨g, HS, HI⟩ : ∃ g : Int, (∀ wx : World, Hid (Calls Tryd.prog 12 #[.agg #[.int .i64 e.a.h, .int .i64 e.a.r, .int .i64 e.a.st, .string e.a.id, .int .i64 e.a.v, .string e.sa, .int .i64 e.b.h, .int .i64 e.b.r, .int .i64 e.b.st, .string e.b.id, .int .i64 e.b.v, .string e.sb]] wx fun r w' => r = .returned (.int .i64 g) ∧ Below wx.heap.size wx w')) ∧ (∀ wx : World, Tab wx → Hid (Calls Tryd.prog 13 #[.agg #[.int .i64 e.a.h, .int .i64 e.a.r, .int .i64 e.a.st, .string e.a.id, .int .i64 e.a.v, .string e.sa, .int .i64 e.b.h, .int .i64 e.b.r, .int .i64 e.b.st, .string e.b.id, .int .i64 e.b.v, .string e.sb]] wx fun r w' => r = .returned (.int .i64 g) ∧ Below wx.heap.size wx w')) := ⟨_, fun wx => sCulprit_any e wx, fun wx hx => Culprit_any e wx hx⟩
  go_enter Tryd.func4, Tryd.ntmps4
  go_wp2_with fail
  refine (szEvidence_any e 1048576 _ (by decide) (by decide) h1 h2 h3 h4).mono ?_
  rintro r w1 ⟨r1, rfl, q0, q1, hb⟩
  have A0 : Blk (w.alloc (.cells #[.int .i64 e.a.h, .int .i64 e.a.r, .int .i64 e.a.st, .string e.a.id, .int .i64 e.a.v, .string e.sa, .int .i64 e.b.h, .int .i64 e.b.r, .int .i64 e.b.st, .string e.b.id, .int .i64 e.b.v, .string e.sb] 27)) w.heap.size 27 #[.int .i64 e.a.h, .int .i64 e.a.r, .int .i64 e.a.st, .string e.a.id, .int .i64 e.a.v, .string e.sa, .int .i64 e.b.h, .int .i64 e.b.r, .int .i64 e.b.st, .string e.b.id, .int .i64 e.b.v, .string e.sb] := heap_alloc_new w _
  have A1 := Lib.hid (A0.below hb A0.lt)
  have HB1 : Hid (Below w.heap.size w w1) := ((Below.refl _ _).alloc (Nat.le_refl _) _).trans (hb.mono (by rw [World.size_alloc]; omega))
  clear A0 hb
  by_cases hr : r1 < 0
  · go_wp2_with fail
    go_ret
    exact ⟨rfl, HB1.out⟩
  · have u0 : w1.cell? ⟨w.heap.size, 0, none⟩ = some (.int .i64 e.a.h) := (A1.out.cell 0).trans rfl
    have u1 : w1.cell? ⟨w.heap.size, 1, none⟩ = some (.int .i64 e.a.r) := (A1.out.cell 1).trans rfl
    have u2 : w1.cell? ⟨w.heap.size, 2, none⟩ = some (.int .i64 e.a.st) := (A1.out.cell 2).trans rfl
    have u3 : w1.cell? ⟨w.heap.size, 3, none⟩ = some (.string e.a.id) := (A1.out.cell 3).trans rfl
    have u4 : w1.cell? ⟨w.heap.size, 4, none⟩ = some (.int .i64 e.a.v) := (A1.out.cell 4).trans rfl
    have u5 : w1.cell? ⟨w.heap.size, 5, none⟩ = some (.string e.sa) := (A1.out.cell 5).trans rfl
    have u6 : w1.cell? ⟨w.heap.size, 6, none⟩ = some (.int .i64 e.b.h) := (A1.out.cell 6).trans rfl
    have u7 : w1.cell? ⟨w.heap.size, 7, none⟩ = some (.int .i64 e.b.r) := (A1.out.cell 7).trans rfl
    have u8 : w1.cell? ⟨w.heap.size, 8, none⟩ = some (.int .i64 e.b.st) := (A1.out.cell 8).trans rfl
    have u9 : w1.cell? ⟨w.heap.size, 9, none⟩ = some (.string e.b.id) := (A1.out.cell 9).trans rfl
    have u10 : w1.cell? ⟨w.heap.size, 10, none⟩ = some (.int .i64 e.b.v) := (A1.out.cell 10).trans rfl
    have u11 : w1.cell? ⟨w.heap.size, 11, none⟩ = some (.string e.sb) := (A1.out.cell 11).trans rfl
    go_wp2_with fail
    clear u0 u1 u2 u3 u4 u5 u6 u7 u8 u9 u10 u11
    refine (toEvidence_any e _).mono ?_
    rintro r w2 ⟨rfl, hb2⟩
    go_wp2_with fail
    refine (HS _).out.mono ?_
    rintro r w3 ⟨rfl, hb3⟩
    have HB3 : Hid (Below w1.heap.size w1 w3) := hb2.trans (hb3.mono hb2.size)
    have A3 := Lib.hid (A1.out.below HB3.out A1.out.lt)
    have HB4 : Hid (Below w.heap.size w w3) := HB1.out.trans (HB3.out.mono HB1.out.size)
    clear hb2 hb3
    have u0 : w3.cell? ⟨w.heap.size, 0, none⟩ = some (.int .i64 e.a.h) := (A3.out.cell 0).trans rfl
    have u1 : w3.cell? ⟨w.heap.size, 1, none⟩ = some (.int .i64 e.a.r) := (A3.out.cell 1).trans rfl
    have u2 : w3.cell? ⟨w.heap.size, 2, none⟩ = some (.int .i64 e.a.st) := (A3.out.cell 2).trans rfl
    have u3 : w3.cell? ⟨w.heap.size, 3, none⟩ = some (.string e.a.id) := (A3.out.cell 3).trans rfl
    have u4 : w3.cell? ⟨w.heap.size, 4, none⟩ = some (.int .i64 e.a.v) := (A3.out.cell 4).trans rfl
    have u5 : w3.cell? ⟨w.heap.size, 5, none⟩ = some (.string e.sa) := (A3.out.cell 5).trans rfl
    have u6 : w3.cell? ⟨w.heap.size, 6, none⟩ = some (.int .i64 e.b.h) := (A3.out.cell 6).trans rfl
    have u7 : w3.cell? ⟨w.heap.size, 7, none⟩ = some (.int .i64 e.b.r) := (A3.out.cell 7).trans rfl
    have u8 : w3.cell? ⟨w.heap.size, 8, none⟩ = some (.int .i64 e.b.st) := (A3.out.cell 8).trans rfl
    have u9 : w3.cell? ⟨w.heap.size, 9, none⟩ = some (.string e.b.id) := (A3.out.cell 9).trans rfl
    have u10 : w3.cell? ⟨w.heap.size, 10, none⟩ = some (.int .i64 e.b.v) := (A3.out.cell 10).trans rfl
    have u11 : w3.cell? ⟨w.heap.size, 11, none⟩ = some (.string e.sb) := (A3.out.cell 11).trans rfl
    go_wp2_with fail
    clear u0 u1 u2 u3 u4 u5 u6 u7 u8 u9 u10 u11
    refine (toEvidence_any e _).mono ?_
    rintro r w4 ⟨rfl, hb4⟩
    go_wp2_with fail
    refine (HI _ ((HT.out.below HB4.out HT.out.pos).below hb4 (Nat.lt_of_lt_of_le HT.out.pos HB4.out.size))).out.mono ?_
    rintro r w5 ⟨rfl, hb5⟩
    have HB5 : Hid (Below w.heap.size w w5) := HB4.out.trans ((hb4.trans (hb5.mono hb4.size)).mono HB4.out.size)
    clear hb4 hb5
    have hne : (g != g) = false := by simp
    go_wp2_with fail
    go_ret
    exact ⟨rfl, HB5.out⟩

set_option maxRecDepth 100000 in
theorem ExactCulprit_lifted (os : Os) (started : os.Started) (H : Type) (enc : TypeId × Value → H) :
    ReturnsInHanded {} Tryd.checked os 4 .any (fun w args => (Rows.fnExactCulpritSpec.pre enc Tryd.prog Tryd.f4 Rows.fnExactCulpritRow.domain false w args ∧ laidMet Tryd.prog Rows.fnExactCulpritRow.laid w) ∧ sizedMet enc Tryd.prog Tryd.f4 (OpenSpec.ofChange Rows.fnExactCulpritSpec) false w args)
      (Rows.fnExactCulpritSpec.post enc Tryd.prog Tryd.f4 false true false false) := by
  refine returnsInHanded_of_change_and (C := Tryd.checked) (X := fun w _ => laidMet Tryd.prog Rows.fnExactCulpritRow.laid w) (fun _ _ _ hh h => h.of_heap hh) own started (by kernel_rfl) Tryd.func4
    (ChangeSpec.witness_at (enc := enc) (C := Tryd.checked) (os := os) (X := fun w _ => laidMet Tryd.prog Rows.fnExactCulpritRow.laid w) false (tabWorld os) #[.agg #[.int .i64 0, .int .i64 0, .int .i64 0, .string ⟨#[]⟩, .int .i64 0, .string ⟨#[]⟩, .int .i64 0, .int .i64 0, .int .i64 0, .string ⟨#[]⟩, .int .i64 0, .string ⟨#[]⟩]] 8 rfl (by kernel_rfl) (by kernel_rfl) (by kernel_rfl) (by kernel_rfl) (by kernel_rfl) (tabWorld_met os _)) ?_
  intro W base args ds gs before hval0 hW hcnd _ hL _
  have hval : ∀ (j : Nat) t v, Tryd.f4.params[j]? = some t → args[j]? = some v → Value.okWide Tryd.prog W .any base t v := hval0
  have hW' := hW
  obtain ⟨p, q, hA0, hV, rfl, hfz, hnd⟩ := hW
  have hA : DataW.TrodAll enc Tryd.prog W 0 (fun _ => true) true Tryd.f4.params.toList args.toList ds p := hA0
  rw [Tryd.params4] at hA hval
  obtain ⟨v0, vs0, d0, ds0, p0, q0, hargs, rfl, rfl, h0, r0⟩ := trodAll_cons hA
  obtain ⟨rfl, rfl, rfl⟩ := trodAll_nil r0
  obtain rfl : args = #[v0] := by cases args; simp_all
  have ht := tab_of_laid hL
  obtain ⟨cs, rfl, _⟩ := okWide_struct Tryd.underlying27 (hval 0 27 v0 rfl rfl)
  obtain ⟨fuel, hfu⟩ := h0
  obtain ⟨e, he, k1, k2, k3, k4⟩ := evid_el hfu
  have hcs : cs = #[.int .i64 e.a.h, .int .i64 e.a.r, .int .i64 e.a.st, .string e.a.id, .int .i64 e.a.v, .string e.sa, .int .i64 e.b.h, .int .i64 e.b.r, .int .i64 e.b.st, .string e.b.id, .int .i64 e.b.v, .string e.sb] := by
    apply Array.toList_inj.1
    exact (show cs.toList = svC e.a e.sa ++ svC e.b e.sb from he)
  subst hcs
  refine (ExactCulprit_walk e W ht k1 k2 k3 k4).mono fun r W' ⟨hr, hb⟩ => ?_
  subst hr
  exact ⟨_, rfl, law_post1 (f := Tryd.f4) (tb := 4) (t := 121) rfl Tryd.underlying4 rfl (by kernel_rfl) (by kernel_rfl) (by kernel_rfl) (fun d => rfl) (fun d => rfl) (fun d => rfl) hW' hb⟩

theorem ExactCulprit_row : Rows.FnExactCulpritSaid :=
  OpenClaim.holds_of_wide 4 Tryd.f4 rfl rfl rfl rfl rfl rfl rfl ⟨rfl, rfl, rfl, rfl, rfl⟩ rfl rfl rfl rfl rfl (by kernel_rfl) Tryd.func4 (by kernel_rfl)
    (of_decide_eq_true (by kernel_rfl)) (by unfold Func.isWrapper; first | (rw [if_pos (by decide +kernel)]; kernel_rfl) | (rw [if_neg (by decide +kernel)]; exact ⟨rfl, rfl⟩))
    (fun os started H enc _ => ExactCulprit_lifted os started H enc)

theorem ExactCulprit_holds : Rows.FnExactCulpritCardSaid :=
  Claim7.holds_tied_plain_at .later [] [.data] true Rows.fnExactCulpritCard.stood.harness false
    ExactCulprit_row (fun _ h => by cases h) (by kernel_rfl) (fun _ h => by cases h) fnExactCulprit_row_tie rfl ⟨rfl, rfl⟩ (by kernel_rfl) rfl
    (fun f fn hf hfn => by
      obtain rfl : f = 4 := Option.some.inj ((show Tryd.prog.funcNamed "loop.example/g00946/laws.FnExactCulprit" = some 4 by kernel_rfl).symm.trans hf) |>.symm
      obtain rfl : fn = Tryd.f4 := (Option.some.inj (Tryd.func4.symm.trans hfn)).symm
      exact ⟨by kernel_rfl, fun j t ht => by
        rw [Tryd.params4] at ht
        have h3 : t = 27 := by
          rcases j with _ | j
          · simpa using ht.symm
          · simp at ht
        subst h3
        exact (show Tryd.prog.wantsStandIn 27 = false by kernel_rfl)⟩)
    (by kernel_rfl)
end Go.Proofs.YteaggbbimhpolaaDoor
