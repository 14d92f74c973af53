/- The program's WalScan returns what the reference's returns, for all arguments. No conditions. -/
import Derived.Test.YtpfppkjikkihfaaStrMk
import Derived.Test.YtpfppkjikkihfaaL
namespace Go.Proofs.Ytpfppkjikkihfaa
open Go.ChangeShapes Go.WideShapes Go.ChangeAt Go.RowKit Go.Joins

set_option maxRecDepth 100000 in
set_option maxHeartbeats 2000000 in
theorem ExactWalScan_walk (s : ByteArray) (w : World) :
    Calls Try.prog 9 #[.string s] w fun e w' => e = .returned (.bool true) ∧ Below w.heap.size w w' := by
  by_cases h6 : (1048576 : Int) < s.size
  · go_enter Try.func9, Try.ntmps9
    go_wp2
    go_ret
    exact ⟨rfl, Below.refl _ _⟩
  obtain ⟨hb1, hb2⟩ := scanS_bd s
  have hs : s.size ≤ 1048576 := by omega
  obtain ⟨l, a, hla⟩ : ∃ l a, scanS s = (l, a) := ⟨_, _, rfl⟩
  have HLA := Lib.hid hla
  rw [hla] at hb1 hb2
  simp only at hb1 hb2
  clear hla
  have hl1 : l.length ≤ 1048576 := by omega
  go_enter Try.func9, Try.ntmps9
  go_wp2_with fail
  refine (sWalScan_any s _ hs).mono ?_
  rw [HLA.out]
  rintro e w1 ⟨Ap, cp, rfl, ho, hb⟩
  have hs1 := hb.size
  have C1 := Lib.hid ((Chg.refl w.heap.size w.heap.size w).below_trans hb)
  have B1 : Hid (Below w.heap.size w w1) := C1.out.below (Nat.le_refl _) (Nat.le_refl _)
  clear hb
  have Op1 := Lib.hid ho
  clear ho
  go_wp2_with fail
  refine (WalScan_any s _ hs).mono ?_
  rw [HLA.out]
  rintro e w2 ⟨Ag, cg, rfl, ho, hb⟩
  have hs2 := hb.size
  have C2 := Lib.hid ((Chg.refl w.heap.size w.heap.size w1).below_trans hb)
  have B2 : Hid (Below w.heap.size w w2) := B1.out.trans (C2.out.below (by omega) (by omega))
  have Op2 := Lib.hid (Op1.out.chg C2.out (by omega))
  clear Op1
  clear hb
  have Og2 := Lib.hid ho
  clear ho
  go_wp2_with fail
  refine (eqStringS_same Ag _ cg Ap cp l _ (by exact (Og2.out.rd strC_len).more (by first | with_reducible exact Nat.le_refl _ | (simp; done) | omega | (simp; omega))) (by exact (Op2.out.rd strC_len).more (by first | with_reducible exact Nat.le_refl _ | (simp; done) | omega | (simp; omega)))).mono ?_
  rintro e w3 ⟨rfl, hb⟩
  have hs3 := hb.size
  have C3 := Lib.hid ((Chg.refl w.heap.size w.heap.size w2).below_trans hb)
  have B3 : Hid (Below w.heap.size w w3) := B2.out.trans (C3.out.below (by omega) (by omega))
  have Op3 := Lib.hid (Op2.out.chg C3.out (by omega))
  clear Op2
  have Og3 := Lib.hid (Og2.out.chg C3.out (by omega))
  clear Og2
  clear hb
  go_wp2_with fail
  refine (markStringS_any 9 Ag _ cg l w1.heap.size w2.heap.size 1 _ Og3.out (by decide) (by omega) (by decide)).mono ?_
  rintro e w4 ⟨rfl, ho, hg⟩
  have hs4 := hg.size
  have C4 := Lib.hid hg
  have B4 : Hid (Below w.heap.size w w4) := B3.out.trans (C4.out.below (by omega) (by omega))
  have Op4 := Lib.hid (Op3.out.chg C4.out (by omega))
  clear Op3
  clear hg
  clear Og3
  have Og4 := Lib.hid ho
  clear ho
  have hq1 : ¬ ((1 + l.length : Nat) : Int) < 0 := by omega
  go_wp2_with fail
  refine (heldStringS_any Ag _ cg 1 _ (by exact (Og4.out.rd strC_len).more (by first | with_reducible exact Nat.le_refl _ | (simp; done) | omega | (simp; omega))) (by decide) (by omega) (by decide)).mono ?_
  rintro e w5 ⟨rfl, hb⟩
  have hs5 := hb.size
  have C5 := Lib.hid ((Chg.refl w.heap.size w.heap.size w4).below_trans hb)
  have B5 : Hid (Below w.heap.size w w5) := B4.out.trans (C5.out.below (by omega) (by omega))
  have Op5 := Lib.hid (Op4.out.chg C5.out (by omega))
  clear Op4
  have Og5 := Lib.hid (Og4.out.chg C5.out (by omega))
  clear Og4
  clear hb
  go_wp2_with fail
  refine (WalScan_any s _ hs).mono ?_
  rw [HLA.out]
  rintro e w6 ⟨Ah, ch, rfl, ho, hb⟩
  have hs6 := hb.size
  have C6 := Lib.hid ((Chg.refl w.heap.size w.heap.size w5).below_trans hb)
  have B6 : Hid (Below w.heap.size w w6) := B5.out.trans (C6.out.below (by omega) (by omega))
  have Op6 := Lib.hid (Op5.out.chg C6.out (by omega))
  clear Op5
  have Og6 := Lib.hid (Og5.out.chg C6.out (by omega))
  clear Og5
  clear hb
  have Oh6 := Lib.hid ho
  clear ho
  go_wp2_with fail
  refine (eqStringS_same Ah _ ch Ap cp l _ (by exact (Oh6.out.rd strC_len).more (by first | with_reducible exact Nat.le_refl _ | (simp; done) | omega | (simp; omega))) (by exact (Op6.out.rd strC_len).more (by first | with_reducible exact Nat.le_refl _ | (simp; done) | omega | (simp; omega)))).mono ?_
  rintro e w7 ⟨rfl, hb⟩
  have hs7 := hb.size
  have C7 := Lib.hid ((Chg.refl w.heap.size w.heap.size w6).below_trans hb)
  have B7 : Hid (Below w.heap.size w w7) := B6.out.trans (C7.out.below (by omega) (by omega))
  have Op7 := Lib.hid (Op6.out.chg C7.out (by omega))
  clear Op6
  have Og7 := Lib.hid (Og6.out.chg C7.out (by omega))
  clear Og6
  have Oh7 := Lib.hid (Oh6.out.chg C7.out (by omega))
  clear Oh6
  clear hb
  go_wp2_with fail
  refine (heldStringS_any Ag _ cg 1 _ (by exact (Og7.out.rd strC_len).more (by first | with_reducible exact Nat.le_refl _ | (simp; done) | omega | (simp; omega))) (by decide) (by omega) (by decide)).mono ?_
  rintro e w8 ⟨rfl, hb⟩
  have hs8 := hb.size
  have C8 := Lib.hid ((Chg.refl w.heap.size w.heap.size w7).below_trans hb)
  have B8 : Hid (Below w.heap.size w w8) := B7.out.trans (C8.out.below (by omega) (by omega))
  have Op8 := Lib.hid (Op7.out.chg C8.out (by omega))
  clear Op7
  have Og8 := Lib.hid (Og7.out.chg C8.out (by omega))
  clear Og7
  have Oh8 := Lib.hid (Oh7.out.chg C8.out (by omega))
  clear Oh7
  clear hb
  go_wp2_with fail
  go_ret
  exact ⟨rfl, B8.out⟩

set_option maxRecDepth 100000 in
theorem ExactWalScan_lifted (os : Os) (started : os.Started) (H : Type) (enc : TypeId × Value → H) :
    ReturnsInHanded {} Try.checked os 9 .any (Rows.fnExactWalScanSpec.pre6 enc Try.prog Try.f9 Rows.fnExactWalScanRow.domain false) (Rows.fnExactWalScanSpec.post enc Try.prog Try.f9 false true false false) := by
  refine returnsInHanded_of_change (C := Try.checked) own started (by kernel_rfl) Try.func9
    (ChangeSpec.witness6 (enc := enc) (C := Try.checked) false ⟨#[], #[.string ByteArray.empty], []⟩ 8 (by kernel_rfl) (by kernel_rfl) (by kernel_rfl) (by kernel_rfl)) ?_
  intro W base args ds gs before hval0 hW hcnd _
  have hval : ∀ (j : Nat) t v, Try.f9.params[j]? = some t → args[j]? = some v → Value.okWide Try.prog W .any base t v := hval0
  have hW' := hW
  obtain ⟨p, q, hA0, hV, rfl, hfz, hnd⟩ := hW
  have hA : DataW.TrodAll enc Try.prog W 0 (fun _ => true) true Try.f9.params.toList args.toList ds p := hA0
  rw [Try.params9] at hA hval
  obtain ⟨v0, vs0, d0, ds0, p0, q0, hargs, rfl, rfl, h0, r0⟩ := trodAll_cons hA
  obtain ⟨rfl, rfl, rfl⟩ := trodAll_nil r0
  obtain rfl : args = #[v0] := by cases args; simp_all
  obtain ⟨s, rfl, hs⟩ := arg_string Try.underlying9 (hval 0 9 v0 rfl rfl) h0
  refine (ExactWalScan_walk _ W).mono fun e W' ⟨he, hb⟩ => ?_
  subst he
  refine ⟨_, rfl, law_post (f := Try.f9) (tb := 4) rfl Try.underlying4 rfl (by kernel_rfl) (fun gs hg => by subst hg; rfl) (fun gs hg => by subst hg; rfl) (fun gs hg => by subst hg; rfl) hW' hb⟩

theorem ExactWalScan_holds : Rows.FnExactWalScanSaid :=
  OpenClaim.holds_of_wide 9 Try.f9 rfl rfl rfl rfl rfl rfl rfl ⟨rfl, rfl, rfl, rfl, rfl⟩ rfl rfl rfl rfl rfl (by kernel_rfl) Try.func9 (by kernel_rfl)
    (of_decide_eq_true (by kernel_rfl)) (by unfold Func.isWrapper; first | (rw [if_pos (by decide +kernel)]; kernel_rfl) | (rw [if_neg (by decide +kernel)]; exact ⟨rfl, rfl⟩))
    (fun os started H enc _ => ExactWalScan_lifted os started H enc)
#print axioms ExactWalScan_holds
end Go.Proofs.Ytpfppkjikkihfaa
