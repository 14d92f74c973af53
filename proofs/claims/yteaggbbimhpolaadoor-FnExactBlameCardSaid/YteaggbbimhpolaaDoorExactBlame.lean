/- The program's Blame returns what the reference's returns, for all arguments. No conditions but the card's: the table of the hash is as the program's text lays it. (written by wip/blame.py) -/
import Derived.Test.YteaggbbimhpolaaDoorBlame
import Derived.Test.YteaggbbimhpolaaDoorMkSVote
import Derived.Test.YteaggbbimhpolaaDoorIntMk
import Derived.Test.YteaggbbimhpolaaDoorElSVote
import Derived.Test.YteaggbbimhpolaaDoorCard
namespace Go.Proofs.YteaggbbimhpolaaDoor
open Go.ChangeShapes Go.WideShapes Go.ChangeAt Go.RowKit Go.Joins

theorem Chg.under {lo hi B : Nat} {a b : World} (h : Chg lo hi a b) (hB : B ≤ lo ∨ hi ≤ lo) (hs : B ≤ a.heap.size) : Below B a b :=
  ⟨h.os, h.tape, h.output, h.size, fun k hk => h.block k (by omega) (by omega)⟩
theorem own_rowS {w' : World} {B : Nat} {A : Option Addr} {c : Nat} {l : List SVoteD} (h : w'.ownsRow B 32 6 (.slice A l.length c) l.length (l.flatMap svtC)) : OwnL svtC 6 32 w' B w'.heap.size A l.length c l := by
  obtain ⟨A', c', e, hr⟩ := OwnL.of_own (l := l) rfl h
  simp only [Value.slice.injEq, true_and] at e
  obtain ⟨rfl, rfl⟩ := e
  exact hr

set_option maxRecDepth 100000 in
set_option maxHeartbeats 4000000 in
theorem ExactBlame_walk (A : Option Addr) (n c : Nat) (l : List SVoteD) (w : World) (hl : RdL svtC 6 w w.heap.size A n c l) (hs : ∀ x ∈ l, x.id.size ≤ maxLen ∧ x.sig.size ≤ maxLen) (ht : Tab w) :
    Calls Tryd.prog 6 #[.slice A n c] w fun e w' => e = .returned (.bool true) ∧ Below w.heap.size w w' := by
  obtain rfl : l.length = n := hl.1
  have HL := Lib.hid hl
  have HT := Lib.hid ht
  obtain ⟨D, hD⟩ : ∃ D, blL l = D := ⟨_, rfl⟩
  have hDl : D.length ≤ 99 := by rw [← hD, bl_eq]; exact blS_len l 99
  have HD := Lib.hid hD
  clear hD
  go_enter Tryd.func6, Tryd.ntmps6
  go_wp2_with fail
  refine (szSVoteS_any A l.length c l 1048576 _ hl hs (by decide) (by decide)).mono ?_
  rintro e w1 ⟨r1, rfl, q0, q1, q2, hb⟩
  clear hl hs ht
  have B0 : Hid (Below w.heap.size w w) := Lib.hid (Below.refl _ _)
  have C : Chg 0 0 w w1 := Chg.of_below hb
  clear hb
  have hs1 := C.size
  have B1 : Hid (Below w.heap.size w w1) := Lib.hid (B0.out.trans (C.under (B := w.heap.size) (by omega) (by omega)))
  clear B0
  clear C
  by_cases hr : r1 < 0
  · go_wp2_with fail
    go_ret
    exact ⟨rfl, B1.out⟩
  have hn : l.length ≤ 1048576 := by omega
  clear q0 q1 q2
  go_wp2_with fail
  refine (toSVoteS_any A l.length c l _ ((HL.out.below B1.out (Nat.le_refl _)).more B1.out.size) hn).mono ?_
  intro e w2 h
  obtain ⟨A2, c2, rfl, hown, hr2, hb⟩ := h.get rfl
  have C : Chg 0 0 w1 w2 := Chg.of_below hb
  have HO := Lib.hid (own_rowS hown)
  clear h hown hr2 hb
  have hs2 := C.size
  have B2 : Hid (Below w.heap.size w w2) := Lib.hid (B1.out.trans (C.under (B := w.heap.size) (by omega) (by omega)))
  clear B1
  clear C
  have O22 := HO
  clear HO
  go_wp2_with fail
  refine (sBlame_any A2 l.length c2 l _ ((O22.out.rd svtC_len).more (by omega))).mono ?_
  rw [← bl_eq, HD.out]
  rintro e w3 ⟨Ap, cp, rfl, ho, hb⟩
  have C : Chg 0 0 w2 w3 := Chg.of_below hb
  have HO := Lib.hid ho
  clear ho hb
  have hs3 := C.size
  have B3 : Hid (Below w.heap.size w w3) := Lib.hid (B2.out.trans (C.under (B := w.heap.size) (by omega) (by omega)))
  clear B2
  have O23 := Lib.hid (O22.out.chg C (by omega))
  clear O22
  clear C
  have Op3 := HO
  clear HO
  clear O23
  go_wp2_with fail
  refine (toSVoteS_any A l.length c l _ ((HL.out.below B3.out (Nat.le_refl _)).more B3.out.size) hn).mono ?_
  intro e w4 h
  obtain ⟨Ax, cx, rfl, hown, hrx, hb⟩ := h.get rfl
  have C : Chg 0 0 w3 w4 := Chg.of_below hb
  have HO := Lib.hid (own_rowS hown)
  clear h hown hrx hb
  have hs4 := C.size
  have B4 : Hid (Below w.heap.size w w4) := Lib.hid (B3.out.trans (C.under (B := w.heap.size) (by omega) (by omega)))
  clear B3
  have Op4 := Lib.hid (Op3.out.chg C (by omega))
  clear Op3
  clear C
  have Ox4 := HO
  clear HO
  go_wp2_with fail
  refine (Blame_any Ax l.length cx l _ ((Ox4.out.rd svtC_len).more (by omega)) hn (by exact HT.out.below B4.out HT.out.pos)).mono ?_
  rw [HD.out]
  rintro e w5 ⟨Ag, cg, rfl, ho, hb⟩
  have C : Chg 0 0 w4 w5 := Chg.of_below hb
  have HO := Lib.hid ho
  clear ho hb
  have hs5 := C.size
  have B5 : Hid (Below w.heap.size w w5) := Lib.hid (B4.out.trans (C.under (B := w.heap.size) (by omega) (by omega)))
  clear B4
  have Op5 := Lib.hid (Op4.out.chg C (by omega))
  clear Op4
  have Ox5 := Lib.hid (Ox4.out.chg C (by omega))
  clear Ox4
  clear C
  have Og5 := HO
  clear HO
  go_wp2_with fail
  refine (eqIntS_same Ag D.length cg Ap cp D _ ((Og5.out.rd intC_len).more (by omega)) ((Op5.out.rd intC_len).more (by omega))).mono ?_
  rintro e w6 ⟨rfl, hb⟩
  have C : Chg 0 0 w5 w6 := by exact Chg.of_below hb
  clear hb
  have hs6 := C.size
  have B6 : Hid (Below w.heap.size w w6) := Lib.hid (B5.out.trans (C.under (B := w.heap.size) (by omega) (by omega)))
  clear B5
  have Op6 := Lib.hid (Op5.out.chg C (by omega))
  clear Op5
  have Ox6 := Lib.hid (Ox5.out.chg C (by omega))
  clear Ox5
  have Og6 := Lib.hid (Og5.out.chg C (by omega))
  clear Og5
  clear C
  go_wp2_with fail
  refine (toSVoteS_any A l.length c l _ ((HL.out.below B6.out (Nat.le_refl _)).more B6.out.size) hn).mono ?_
  intro e w7 h
  obtain ⟨Ay, cy, rfl, hown, hry, hb⟩ := h.get rfl
  have C : Chg 0 0 w6 w7 := Chg.of_below hb
  have HO := Lib.hid (own_rowS hown)
  clear h hown hry hb
  have hs7 := C.size
  have B7 : Hid (Below w.heap.size w w7) := Lib.hid (B6.out.trans (C.under (B := w.heap.size) (by omega) (by omega)))
  clear B6
  have Op7 := Lib.hid (Op6.out.chg C (by omega))
  clear Op6
  have Ox7 := Lib.hid (Ox6.out.chg C (by omega))
  clear Ox6
  have Og7 := Lib.hid (Og6.out.chg C (by omega))
  clear Og6
  clear C
  have Oy7 := HO
  clear HO
  go_wp2_with fail
  refine (eqSVoteS_same Ax l.length cx Ay cy l _ ((Ox7.out.rd svtC_len).more (by omega)) ((Oy7.out.rd svtC_len).more (by omega))).mono ?_
  rintro e w8 ⟨rfl, hb⟩
  have C : Chg 0 0 w7 w8 := by exact Chg.of_below hb
  clear hb
  have hs8 := C.size
  have B8 : Hid (Below w.heap.size w w8) := Lib.hid (B7.out.trans (C.under (B := w.heap.size) (by omega) (by omega)))
  clear B7
  have Op8 := Lib.hid (Op7.out.chg C (by omega))
  clear Op7
  have Ox8 := Lib.hid (Ox7.out.chg C (by omega))
  clear Ox7
  have Og8 := Lib.hid (Og7.out.chg C (by omega))
  clear Og7
  have Oy8 := Lib.hid (Oy7.out.chg C (by omega))
  clear Oy7
  clear C
  clear Oy8
  go_wp2_with fail
  refine (markSVoteS_any 32 Ax l.length cx l w3.heap.size w4.heap.size 1 _ Ox8.out (by decide) (by omega) (by decide)).mono ?_
  rintro e w9 ⟨rfl, ho, C⟩
  have HO := Lib.hid ho
  clear ho Ox8
  have hs9 := C.size
  have B9 : Hid (Below w.heap.size w w9) := Lib.hid (B8.out.trans (C.under (B := w.heap.size) (by omega) (by omega)))
  clear B8
  have Op9 := Lib.hid (Op8.out.chg C (by omega))
  clear Op8
  have Og9 := Lib.hid (Og8.out.chg C (by omega))
  clear Og8
  clear C
  have Ox9 := HO
  clear HO
  clear Ox9
  have hk1 : ¬ ((1 + l.length * 6 : Nat) : Int) < 0 := by omega
  go_wp2_with fail
  refine (eqIntS_same Ag D.length cg Ap cp D _ ((Og9.out.rd intC_len).more (by omega)) ((Op9.out.rd intC_len).more (by omega))).mono ?_
  rintro e w10 ⟨rfl, hb⟩
  have C : Chg 0 0 w9 w10 := by exact Chg.of_below hb
  clear hb
  have hs10 := C.size
  have B10 : Hid (Below w.heap.size w w10) := Lib.hid (B9.out.trans (C.under (B := w.heap.size) (by omega) (by omega)))
  clear B9
  have Op10 := Lib.hid (Op9.out.chg C (by omega))
  clear Op9
  have Og10 := Lib.hid (Og9.out.chg C (by omega))
  clear Og9
  clear C
  go_wp2_with fail
  refine (markIntS_any 3 Ag D.length cg D w4.heap.size w5.heap.size 1 _ Og10.out (by decide) (by omega) (by decide)).mono ?_
  rintro e w11 ⟨rfl, ho, C⟩
  have HO := Lib.hid ho
  clear ho Og10
  have hs11 := C.size
  have B11 : Hid (Below w.heap.size w w11) := Lib.hid (B10.out.trans (C.under (B := w.heap.size) (by omega) (by omega)))
  clear B10
  have Op11 := Lib.hid (Op10.out.chg C (by omega))
  clear Op10
  clear C
  have Og11 := HO
  clear HO
  have hk2 : ¬ ((1 + D.length : Nat) : Int) < 0 := by omega
  go_wp2_with fail
  refine (heldIntS_any Ag D.length cg 1 _ ((Og11.out.rd intC_len).more (by omega)) (by decide) (by omega) (by decide)).mono ?_
  rintro e w12 ⟨rfl, hb⟩
  have C : Chg 0 0 w11 w12 := by exact Chg.of_below hb
  clear hb
  have hs12 := C.size
  have B12 : Hid (Below w.heap.size w w12) := Lib.hid (B11.out.trans (C.under (B := w.heap.size) (by omega) (by omega)))
  clear B11
  have Op12 := Lib.hid (Op11.out.chg C (by omega))
  clear Op11
  have Og12 := Lib.hid (Og11.out.chg C (by omega))
  clear Og11
  clear C
  go_wp2_with fail
  refine (toSVoteS_any A l.length c l _ ((HL.out.below B12.out (Nat.le_refl _)).more B12.out.size) hn).mono ?_
  intro e w13 h
  obtain ⟨Az, cz, rfl, hown, hrz, hb⟩ := h.get rfl
  have C : Chg 0 0 w12 w13 := Chg.of_below hb
  have HO := Lib.hid (own_rowS hown)
  clear h hown hrz hb
  have hs13 := C.size
  have B13 : Hid (Below w.heap.size w w13) := Lib.hid (B12.out.trans (C.under (B := w.heap.size) (by omega) (by omega)))
  clear B12
  have Op13 := Lib.hid (Op12.out.chg C (by omega))
  clear Op12
  have Og13 := Lib.hid (Og12.out.chg C (by omega))
  clear Og12
  clear C
  have Oz13 := HO
  clear HO
  go_wp2_with fail
  refine (Blame_any Az l.length cz l _ ((Oz13.out.rd svtC_len).more (by omega)) hn (by exact HT.out.below B13.out HT.out.pos)).mono ?_
  rw [HD.out]
  rintro e w14 ⟨Ah, ch, rfl, ho, hb⟩
  have C : Chg 0 0 w13 w14 := Chg.of_below hb
  have HO := Lib.hid ho
  clear ho hb
  have hs14 := C.size
  have B14 : Hid (Below w.heap.size w w14) := Lib.hid (B13.out.trans (C.under (B := w.heap.size) (by omega) (by omega)))
  clear B13
  have Op14 := Lib.hid (Op13.out.chg C (by omega))
  clear Op13
  have Og14 := Lib.hid (Og13.out.chg C (by omega))
  clear Og13
  have Oz14 := Lib.hid (Oz13.out.chg C (by omega))
  clear Oz13
  clear C
  have Oh14 := HO
  clear HO
  clear Oz14
  go_wp2_with fail
  refine (eqIntS_same Ah D.length ch Ap cp D _ ((Oh14.out.rd intC_len).more (by omega)) ((Op14.out.rd intC_len).more (by omega))).mono ?_
  rintro e w15 ⟨rfl, hb⟩
  have C : Chg 0 0 w14 w15 := by exact Chg.of_below hb
  clear hb
  have hs15 := C.size
  have B15 : Hid (Below w.heap.size w w15) := Lib.hid (B14.out.trans (C.under (B := w.heap.size) (by omega) (by omega)))
  clear B14
  have Op15 := Lib.hid (Op14.out.chg C (by omega))
  clear Op14
  have Og15 := Lib.hid (Og14.out.chg C (by omega))
  clear Og14
  have Oh15 := Lib.hid (Oh14.out.chg C (by omega))
  clear Oh14
  clear C
  go_wp2_with fail
  refine (heldIntS_any Ag D.length cg 1 _ ((Og15.out.rd intC_len).more (by omega)) (by decide) (by omega) (by decide)).mono ?_
  rintro e w16 ⟨rfl, hb⟩
  have C : Chg 0 0 w15 w16 := by exact Chg.of_below hb
  clear hb
  have hs16 := C.size
  have B16 : Hid (Below w.heap.size w w16) := Lib.hid (B15.out.trans (C.under (B := w.heap.size) (by omega) (by omega)))
  clear B15
  have Op16 := Lib.hid (Op15.out.chg C (by omega))
  clear Op15
  have Og16 := Lib.hid (Og15.out.chg C (by omega))
  clear Og15
  have Oh16 := Lib.hid (Oh15.out.chg C (by omega))
  clear Oh15
  clear C
  go_wp2_with fail
  go_ret
  exact ⟨rfl, B16.out⟩

set_option maxRecDepth 100000 in
set_option maxHeartbeats 2000000 in
theorem ExactBlame_lifted (os : Os) (started : os.Started) (H : Type) (enc : TypeId × Value → H) :
    ReturnsInHanded {} Tryd.checked os 6 .any (fun w args => (Rows.fnExactBlameSpec.pre enc Tryd.prog Tryd.f6 Rows.fnExactBlameRow.domain false w args ∧ laidMet Tryd.prog Rows.fnExactBlameRow.laid w) ∧ sizedMet enc Tryd.prog Tryd.f6 (OpenSpec.ofChange Rows.fnExactBlameSpec) false w args)
      (Rows.fnExactBlameSpec.post enc Tryd.prog Tryd.f6 false true false false) := by
  refine returnsInHanded_of_change_and (C := Tryd.checked) (X := fun w _ => laidMet Tryd.prog Rows.fnExactBlameRow.laid w) (fun _ _ _ hh h => h.of_heap hh) own started (by kernel_rfl) Tryd.func6
    (ChangeSpec.witness_at (enc := enc) (C := Tryd.checked) (os := os) (X := fun w _ => laidMet Tryd.prog Rows.fnExactBlameRow.laid w) false (tabWorld os) #[.slice none 0 0] 8 rfl (by kernel_rfl) (by kernel_rfl) (by kernel_rfl) (by kernel_rfl) (by kernel_rfl) (tabWorld_met os _)) ?_
  intro W base args ds gs before hval0 hW hcnd _ hL _
  have hval : ∀ (j : Nat) t v, Tryd.f6.params[j]? = some t → args[j]? = some v → Value.okWide Tryd.prog W .any base t v := hval0
  have hW' := hW
  obtain ⟨p, q, hA0, hV, rfl, hfz, hnd⟩ := hW
  have hA : DataW.TrodAll enc Tryd.prog W 0 (fun _ => true) true Tryd.f6.params.toList args.toList ds p := hA0
  rw [Tryd.params6] at hA hval
  obtain ⟨v0, vs0, d0, ds0, p0, q0, hargs, rfl, rfl, h0, r0⟩ := trodAll_cons hA
  obtain ⟨rfl, rfl, rfl⟩ := trodAll_nil r0
  obtain rfl : args = #[v0] := by cases args; simp_all
  have ht := tab_of_laid hL
  obtain ⟨a0, len, cap, rfl⟩ := okWide_slice Tryd.underlying38 (hval 0 38 v0 rfl rfl)
  obtain ⟨fuel, hfu⟩ := h0
  obtain ⟨A, n, c, he, l, hl, hs⟩ := open_listP (Pr := fun x => x.id.size ≤ maxLen ∧ x.sig.size ≤ maxLen) Tryd.underlying38 (by kernel_rfl) (by decide) svtC_len (fun cs y n h => svt_el h) hfu
  simp only [Value.slice.injEq] at he
  obtain ⟨rfl, rfl, rfl⟩ := he
  refine (ExactBlame_walk a0 len cap l W hl hs ht).mono fun r W' ⟨hr, hb⟩ => ?_
  subst hr
  exact ⟨_, rfl, law_post1 (f := Tryd.f6) (tb := 4) (t := 121) rfl Tryd.underlying4 rfl (by kernel_rfl) (by kernel_rfl) (by kernel_rfl) (fun d => rfl) (fun d => rfl) (fun d => rfl) hW' hb⟩

theorem ExactBlame_row : Rows.FnExactBlameSaid :=
  OpenClaim.holds_of_wide 6 Tryd.f6 rfl rfl rfl rfl rfl rfl rfl ⟨rfl, rfl, rfl, rfl, rfl⟩ rfl rfl rfl rfl rfl (by kernel_rfl) Tryd.func6 (by kernel_rfl)
    (of_decide_eq_true (by kernel_rfl)) (by unfold Func.isWrapper; first | (rw [if_pos (by decide +kernel)]; kernel_rfl) | (rw [if_neg (by decide +kernel)]; exact ⟨rfl, rfl⟩))
    (fun os started H enc _ => ExactBlame_lifted os started H enc)

theorem ExactBlame_holds : Rows.FnExactBlameCardSaid :=
  Claim7.holds_tied_plain_at .later [] [.data] true Rows.fnExactBlameCard.stood.harness false
    ExactBlame_row (fun _ h => by cases h) (by kernel_rfl) (fun _ h => by cases h) fnExactBlame_row_tie rfl ⟨rfl, rfl⟩ (by kernel_rfl) rfl
    (fun f fn hf hfn => by
      obtain rfl : f = 6 := Option.some.inj ((show Tryd.prog.funcNamed "loop.example/g00946/laws.FnExactBlame" = some 6 by kernel_rfl).symm.trans hf) |>.symm
      obtain rfl : fn = Tryd.f6 := (Option.some.inj (Tryd.func6.symm.trans hfn)).symm
      exact ⟨by kernel_rfl, fun j t ht => by
        rw [Tryd.params6] at ht
        have h3 : t = 38 := by
          rcases j with _ | j
          · simpa using ht.symm
          · simp at ht
        subst h3
        exact (show Tryd.prog.wantsStandIn 38 = false by kernel_rfl)⟩)
    (by kernel_rfl)

end Go.Proofs.YteaggbbimhpolaaDoor
