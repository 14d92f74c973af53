/- The program's FindEvid returns what the reference's returns, for all arguments. No conditions but the card's: the table of the hash is as the program's text lays it. -/
import Derived.Test.YteaggbbimhpolaaDoorFindEvid
import Derived.Test.YteaggbbimhpolaaDoorElSVote
import Derived.Test.YteaggbbimhpolaaDoorCard
namespace Go.Proofs.YteaggbbimhpolaaDoor
open Go.ChangeShapes Go.WideShapes Go.ChangeAt Go.RowKit Go.Joins

set_option maxHeartbeats 2000000 in
theorem ExactFindEvid_walk (A : Option Addr) (n c : Nat) (l : List SVoteD) (val : Int) (w : World) (hl : RdL svtC 6 w w.heap.size A n c l) (hs : ∀ x ∈ l, x.id.size ≤ maxLen ∧ x.sig.size ≤ maxLen) (ht : Tab w) :
    Calls Tryd.prog 5 #[.slice A n c, .int .i64 val] w fun r w' => r = .returned (.bool true) ∧ Below w.heap.size w w' := by
  have HT := Lib.hid ht
  have HL := Lib.hid hl
  obtain ⟨g, k, HS, HI⟩ : ∃ (g : EvD) (k : Bool), (∀ (A : Option Addr) (c : Nat) (wx : World), RdL svtC 6 wx wx.heap.size A n c l → Hid (Calls Tryd.prog 15 #[.slice A n c, .int .i64 val] wx fun e w' => e = .returned (.tuple #[.agg #[.int .i64 g.a.h, .int .i64 g.a.r, .int .i64 g.a.st, .string g.a.id, .int .i64 g.a.v, .string g.sa, .int .i64 g.b.h, .int .i64 g.b.r, .int .i64 g.b.st, .string g.b.id, .int .i64 g.b.v, .string g.sb], .bool k]) ∧ Below wx.heap.size wx w')) ∧ (∀ (A : Option Addr) (c : Nat) (wx : World), RdL svtC 6 wx wx.heap.size A n c l → Tab wx → Hid (Calls Tryd.prog 17 #[.slice A n c, .int .i64 val] wx fun e w' => e = .returned (.tuple #[.agg #[.int .i64 g.a.h, .int .i64 g.a.r, .int .i64 g.a.st, .string g.a.id, .int .i64 g.a.v, .string g.sa, .int .i64 g.b.h, .int .i64 g.b.r, .int .i64 g.b.st, .string g.b.id, .int .i64 g.b.v, .string g.sb], .bool k]) ∧ Below wx.heap.size wx w')) := ⟨_, _, fun A c wx h => sFindEvid_any A n c l val wx h, fun A c wx h hx => FindEvid_any A n c l val wx h hx⟩
  go_enter Tryd.func5, Tryd.ntmps5
  go_wp2_with fail
  refine (szSVoteS_any A n c l 1048576 _ hl hs (by decide) (by decide)).mono ?_
  rintro r w1 ⟨r1, rfl, q0, q1, q2, hb⟩
  have HB1 := Lib.hid hb
  clear hb hl hs
  by_cases hr : r1 < 0
  · go_wp2_with fail
    go_ret
    exact ⟨rfl, HB1.out⟩
  have hn : n ≤ 1048576 := by omega
  go_wp2_with fail
  refine (toSVoteS_any A n c l _ ((HL.out.below HB1.out (Nat.le_refl _)).more HB1.out.size) hn).mono ?_
  intro e w2 h
  obtain ⟨A2, c2, rfl, hown, hr2, hb2⟩ := h.get HL.out.1
  have R2 := Lib.hid hr2
  have HB2 := Lib.hid (HB1.out.trans (hb2.mono HB1.out.size))
  clear hown hr2 h hb2
  go_wp2_with fail
  refine (HS A2 c2 _ R2.out).out.mono ?_
  rintro e w3 ⟨rfl, hb3⟩
  have HB3 := Lib.hid (HB2.out.trans (hb3.mono HB2.out.size))
  clear hb3
  have Y0 : Blk (w3.alloc (.cells #[.int .i64 g.a.h, .int .i64 g.a.r, .int .i64 g.a.st, .string g.a.id, .int .i64 g.a.v, .string g.sa, .int .i64 g.b.h, .int .i64 g.b.r, .int .i64 g.b.st, .string g.b.id, .int .i64 g.b.v, .string g.sb] 34)) w3.heap.size 34 #[.int .i64 g.a.h, .int .i64 g.a.r, .int .i64 g.a.st, .string g.a.id, .int .i64 g.a.v, .string g.sa, .int .i64 g.b.h, .int .i64 g.b.r, .int .i64 g.b.st, .string g.b.id, .int .i64 g.b.v, .string g.sb] := heap_alloc_new w3 _
  have HB4 : Hid (Below w.heap.size w (w3.alloc (.cells #[.int .i64 g.a.h, .int .i64 g.a.r, .int .i64 g.a.st, .string g.a.id, .int .i64 g.a.v, .string g.sa, .int .i64 g.b.h, .int .i64 g.b.r, .int .i64 g.b.st, .string g.b.id, .int .i64 g.b.v, .string g.sb] 34))) := HB3.out.alloc HB3.out.size _
  go_wp2_with fail
  refine (toSVoteS_any A n c l _ ((HL.out.below HB4.out (Nat.le_refl _)).more HB4.out.size) hn).mono ?_
  intro e w5 h
  obtain ⟨A5, c5, rfl, hown, hr5, hb5⟩ := h.get HL.out.1
  have R5 := Lib.hid hr5
  have HB5 := Lib.hid (HB4.out.trans (hb5.mono HB4.out.size))
  have Y5 := Y0.below hb5 Y0.lt
  have z5 : w3.heap.size < w5.heap.size := Y5.lt
  clear hown hr5 h hb5 Y0
  go_wp2_with fail
  refine (HI A5 c5 _ R5.out (by exact HT.out.below HB5.out HT.out.pos)).out.mono ?_
  rintro e w6 ⟨rfl, hb6⟩
  have HB6 := Lib.hid (HB5.out.trans (hb6.mono HB5.out.size))
  have R6 := Lib.hid (R5.out.below hb6 (Nat.le_refl _))
  have z6 : w5.heap.size ≤ w6.heap.size := hb6.size
  have Y6 := Y5.below hb6 z5
  have z36 : w3.heap.size < w6.heap.size := by omega
  have y0 : w6.cell? ⟨w3.heap.size, 0, none⟩ = some (.int .i64 g.a.h) := (Y6.cell 0).trans rfl
  have y1 : w6.cell? ⟨w3.heap.size, 1, none⟩ = some (.int .i64 g.a.r) := (Y6.cell 1).trans rfl
  have y2 : w6.cell? ⟨w3.heap.size, 2, none⟩ = some (.int .i64 g.a.st) := (Y6.cell 2).trans rfl
  have y3 : w6.cell? ⟨w3.heap.size, 3, none⟩ = some (.string g.a.id) := (Y6.cell 3).trans rfl
  have y4 : w6.cell? ⟨w3.heap.size, 4, none⟩ = some (.int .i64 g.a.v) := (Y6.cell 4).trans rfl
  have y5 : w6.cell? ⟨w3.heap.size, 5, none⟩ = some (.string g.sa) := (Y6.cell 5).trans rfl
  have y6 : w6.cell? ⟨w3.heap.size, 6, none⟩ = some (.int .i64 g.b.h) := (Y6.cell 6).trans rfl
  have y7 : w6.cell? ⟨w3.heap.size, 7, none⟩ = some (.int .i64 g.b.r) := (Y6.cell 7).trans rfl
  have y8 : w6.cell? ⟨w3.heap.size, 8, none⟩ = some (.int .i64 g.b.st) := (Y6.cell 8).trans rfl
  have y9 : w6.cell? ⟨w3.heap.size, 9, none⟩ = some (.string g.b.id) := (Y6.cell 9).trans rfl
  have y10 : w6.cell? ⟨w3.heap.size, 10, none⟩ = some (.int .i64 g.b.v) := (Y6.cell 10).trans rfl
  have y11 : w6.cell? ⟨w3.heap.size, 11, none⟩ = some (.string g.sb) := (Y6.cell 11).trans rfl
  have hne : (k != k) = false := by simp
  have HB7 : Hid (Below w.heap.size w (w6.alloc (.cells #[.int .i64 g.a.h, .int .i64 g.a.r, .int .i64 g.a.st, .string g.a.id, .int .i64 g.a.v, .string g.sa, .int .i64 g.b.h, .int .i64 g.b.r, .int .i64 g.b.st, .string g.b.id, .int .i64 g.b.v, .string g.sb] 34))) := HB6.out.alloc HB6.out.size _
  have R7 : Hid (RdL svtC 6 (w6.alloc (.cells #[.int .i64 g.a.h, .int .i64 g.a.r, .int .i64 g.a.st, .string g.a.id, .int .i64 g.a.v, .string g.sa, .int .i64 g.b.h, .int .i64 g.b.r, .int .i64 g.b.st, .string g.b.id, .int .i64 g.b.v, .string g.sb] 34)) w5.heap.size A5 n c5 l) := R6.out.alloc z6 _
  clear Y5 Y6 hb6
  go_wp2_with fail
  clear y0 y1 y2 y3 y4 y5 y6 y7 y8 y9 y10 y11
  refine (eqEvidence_same g _).mono ?_
  rintro e w8 ⟨rfl, hb8⟩
  have z8 : w6.heap.size + 1 ≤ w8.heap.size := by have h := hb8.size; rw [World.size_alloc] at h; exact h
  have HB8 := Lib.hid (HB7.out.trans (hb8.mono HB7.out.size))
  have R8 := Lib.hid (R7.out.below hb8 (by rw [World.size_alloc]; omega))
  clear hb8
  go_wp2_with fail
  refine (toSVoteS_any A n c l _ ((HL.out.below HB8.out (Nat.le_refl _)).more HB8.out.size) hn).mono ?_
  intro e w9 h
  obtain ⟨A9, c9, rfl, hown, hr9, hb9⟩ := h.get HL.out.1
  have R9 := Lib.hid hr9
  have HB9 := Lib.hid (HB8.out.trans (hb9.mono HB8.out.size))
  have R89 := Lib.hid ((R8.out.below hb9 (by omega)).more (show w5.heap.size ≤ w9.heap.size by have := hb9.size; omega))
  clear hown hr9 h hb9
  go_wp2_with fail
  refine (eqSVoteS_same A5 n c5 A9 c9 l _ R89.out R9.out).mono ?_
  rintro e w10 ⟨rfl, hb10⟩
  have HB10 := Lib.hid (HB9.out.trans (hb10.mono HB9.out.size))
  clear hb10
  go_wp2_with fail
  go_ret
  exact ⟨rfl, HB10.out⟩

set_option maxRecDepth 100000 in
set_option maxHeartbeats 2000000 in
theorem ExactFindEvid_lifted (os : Os) (started : os.Started) (H : Type) (enc : TypeId × Value → H) :
    ReturnsInHanded {} Tryd.checked os 5 .any (fun w args => (Rows.fnExactFindEvidSpec.pre enc Tryd.prog Tryd.f5 Rows.fnExactFindEvidRow.domain false w args ∧ laidMet Tryd.prog Rows.fnExactFindEvidRow.laid w) ∧ sizedMet enc Tryd.prog Tryd.f5 (OpenSpec.ofChange Rows.fnExactFindEvidSpec) false w args)
      (Rows.fnExactFindEvidSpec.post enc Tryd.prog Tryd.f5 false true false false) := by
  refine returnsInHanded_of_change_and (C := Tryd.checked) (X := fun w _ => laidMet Tryd.prog Rows.fnExactFindEvidRow.laid w) (fun _ _ _ hh h => h.of_heap hh) own started (by kernel_rfl) Tryd.func5
    (ChangeSpec.witness_at (enc := enc) (C := Tryd.checked) (os := os) (X := fun w _ => laidMet Tryd.prog Rows.fnExactFindEvidRow.laid w) false (tabWorld os) #[.slice none 0 0, .int .i64 0] 8 rfl (by kernel_rfl) (by kernel_rfl) (by kernel_rfl) (by kernel_rfl) (by kernel_rfl) (tabWorld_met os _)) ?_
  intro W base args ds gs before hval0 hW hcnd _ hL _
  have hval : ∀ (j : Nat) t v, Tryd.f5.params[j]? = some t → args[j]? = some v → Value.okWide Tryd.prog W .any base t v := hval0
  have hW' := hW
  obtain ⟨p, q, hA0, hV, rfl, hfz, hnd⟩ := hW
  have hA : DataW.TrodAll enc Tryd.prog W 0 (fun _ => true) true Tryd.f5.params.toList args.toList ds p := hA0
  rw [Tryd.params5] at hA hval
  obtain ⟨v0, vs0, d0, ds0, p0, q0, hargs, rfl, rfl, h0, r0⟩ := trodAll_cons hA
  obtain ⟨v1, vs1, d1, ds1, p1, q1, rfl, rfl, rfl, h1, r1⟩ := trodAll_cons r0
  obtain ⟨rfl, rfl, rfl⟩ := trodAll_nil r1
  obtain rfl : args = #[v0, v1] := by cases args; simp_all
  have ht := tab_of_laid hL
  obtain ⟨a0, len, cap, rfl⟩ := okWide_slice Tryd.underlying38 (hval 0 38 v0 rfl rfl)
  obtain ⟨fuel, hfu⟩ := h0
  obtain ⟨A, n, c, he, l, hl, hs⟩ := open_listP (Pr := fun x => x.id.size ≤ maxLen ∧ x.sig.size ≤ maxLen) Tryd.underlying38 (by kernel_rfl) (by decide) svtC_len (fun cs y n h => svt_el h) hfu
  simp only [Value.slice.injEq] at he
  obtain ⟨rfl, rfl, rfl⟩ := he
  obtain ⟨k, rfl, rfl, rfl, _⟩ := open_int Tryd.underlying3 (hval 1 3 v1 rfl rfl) h1
  refine (ExactFindEvid_walk a0 len cap l k W hl hs ht).mono fun r W' ⟨hr, hb⟩ => ?_
  subst hr
  exact ⟨_, rfl, law_post1 (f := Tryd.f5) (tb := 4) (t := 121) rfl Tryd.underlying4 rfl (by kernel_rfl) (by kernel_rfl) (by kernel_rfl) (fun d => rfl) (fun d => rfl) (fun d => rfl) hW' hb⟩

theorem ExactFindEvid_row : Rows.FnExactFindEvidSaid :=
  OpenClaim.holds_of_wide 5 Tryd.f5 rfl rfl rfl rfl rfl rfl rfl ⟨rfl, rfl, rfl, rfl, rfl⟩ rfl rfl rfl rfl rfl (by kernel_rfl) Tryd.func5 (by kernel_rfl)
    (of_decide_eq_true (by kernel_rfl)) (by unfold Func.isWrapper; first | (rw [if_pos (by decide +kernel)]; kernel_rfl) | (rw [if_neg (by decide +kernel)]; exact ⟨rfl, rfl⟩))
    (fun os started H enc _ => ExactFindEvid_lifted os started H enc)

theorem ExactFindEvid_holds : Rows.FnExactFindEvidCardSaid :=
  Claim7.holds_tied_plain_at .later [] [.data] true Rows.fnExactFindEvidCard.stood.harness false
    ExactFindEvid_row (fun _ h => by cases h) (by kernel_rfl) (fun _ h => by cases h) fnExactFindEvid_row_tie rfl ⟨rfl, rfl⟩ (by kernel_rfl) rfl
    (fun f fn hf hfn => by
      obtain rfl : f = 5 := Option.some.inj ((show Tryd.prog.funcNamed "loop.example/g00946/laws.FnExactFindEvid" = some 5 by kernel_rfl).symm.trans hf) |>.symm
      obtain rfl : fn = Tryd.f5 := (Option.some.inj (Tryd.func5.symm.trans hfn)).symm
      exact ⟨by kernel_rfl, fun j t ht => by
        rw [Tryd.params5] at ht
        have h3 : t = 38 ∨ t = 3 := by
          rcases j with _ | _ | j
          · exact .inl (by simpa using ht.symm)
          · exact .inr (by simpa using ht.symm)
          · simp at ht
        rcases h3 with h3 | h3
        · subst h3
          exact (show Tryd.prog.wantsStandIn 38 = false by kernel_rfl)
        · subst h3
          exact (show Tryd.prog.wantsStandIn 3 = false by kernel_rfl)⟩)
    (by kernel_rfl)

end Go.Proofs.YteaggbbimhpolaaDoor
