/- The program's NodeNew returns what the reference's returns, for all arguments. No conditions. -/
import Derived.Test.YtbadfamoiccppaaNodeNew
import Derived.Test.YtbadfamoiccppaaL
namespace Go.Proofs.Ytbadfamoiccppaa
open Go.ChangeShapes Go.WideShapes Go.ChangeAt Go.RowKit Go.Joins

set_option maxHeartbeats 2000000 in
theorem ExactNodeNew_walk (me : Int) (w : World) :
    Calls Try.prog 3 #[.int .i64 me] w fun e w' => e = .returned (.bool true) ∧ Below w.heap.size w w' := by
  cases h : inB me 1 4
  · go_enter Try.func3, Try.ntmps3
    go_wp2_with fail
    refine (sNodeNew_no me _ h).mono ?_
    rintro e w1 ⟨rfl, hb1⟩
    obtain ⟨hc1, hf1, hz1⟩ := bcell hb1
    have hs1 := hb1.size
    try simp only [World.size_alloc] at hs1
    go_wp2_with fail
    refine (NodeNew_no me _ h).mono ?_
    rintro e w2 ⟨rfl, hb2⟩
    obtain ⟨hc2, hf2, hz2⟩ := bcell hb2
    have hs2 := hb2.size
    try simp only [World.size_alloc] at hs2
    have p12 : w1.heap.size < w2.heap.size := by omega
    go_wp2_with fail
    refine (eqNode_same ⟨0, 0, 0, 0, 0, 0, 0, 0, 0⟩ none 0 0 none 0 [] _ ⟨rfl, Rd.nil _ _ _⟩ ⟨rfl, Rd.nil _ _ _⟩).mono ?_
    rintro e w3 ⟨rfl, hb3⟩
    obtain ⟨hc3, hf3, hz3⟩ := bcell hb3
    have hs3 := hb3.size
    try simp only [World.size_alloc] at hs3
    have p13 : w1.heap.size < w3.heap.size := by omega
    have p23 : w2.heap.size < w3.heap.size := by omega
    go_wp2_with fail
    refine (markNodeNil ⟨0, 0, 0, 0, 0, 0, 0, 0, 0⟩ none 0 1 _).mono ?_
    rintro e w4 ⟨rfl, hb4⟩
    obtain ⟨hc4, hf4, hz4⟩ := bcell hb4
    have hs4 := hb4.size
    try simp only [World.size_alloc] at hs4
    have p14 : w1.heap.size < w4.heap.size := by omega
    have p24 : w2.heap.size < w4.heap.size := by omega
    go_wp2_with fail
    refine (heldNodeNil ⟨0, 0, 0, 0, 0, 0, 0, 0, 0⟩ none 0 1 _ (by decide)).mono ?_
    rintro e w5 ⟨rfl, hb5⟩
    obtain ⟨hc5, hf5, hz5⟩ := bcell hb5
    have hs5 := hb5.size
    try simp only [World.size_alloc] at hs5
    have p15 : w1.heap.size < w5.heap.size := by omega
    have p25 : w2.heap.size < w5.heap.size := by omega
    go_wp2_with fail
    refine (NodeNew_no me _ h).mono ?_
    rintro e w6 ⟨rfl, hb6⟩
    obtain ⟨hc6, hf6, hz6⟩ := bcell hb6
    have hs6 := hb6.size
    try simp only [World.size_alloc] at hs6
    have p16 : w1.heap.size < w6.heap.size := by omega
    have p26 : w2.heap.size < w6.heap.size := by omega
    go_wp2_with fail
    refine (eqNode_same ⟨0, 0, 0, 0, 0, 0, 0, 0, 0⟩ none 0 0 none 0 [] _ ⟨rfl, Rd.nil _ _ _⟩ ⟨rfl, Rd.nil _ _ _⟩).mono ?_
    rintro e w7 ⟨rfl, hb7⟩
    obtain ⟨hc7, hf7, hz7⟩ := bcell hb7
    have hs7 := hb7.size
    try simp only [World.size_alloc] at hs7
    have p17 : w1.heap.size < w7.heap.size := by omega
    have p27 : w2.heap.size < w7.heap.size := by omega
    have p67 : w6.heap.size < w7.heap.size := by omega
    go_wp2_with fail
    refine (heldNodeNil ⟨0, 0, 0, 0, 0, 0, 0, 0, 0⟩ none 0 1 _ (by decide)).mono ?_
    rintro e w8 ⟨rfl, hb8⟩
    obtain ⟨hc8, hf8, hz8⟩ := bcell hb8
    have hs8 := hb8.size
    try simp only [World.size_alloc] at hs8
    have p18 : w1.heap.size < w8.heap.size := by omega
    have p28 : w2.heap.size < w8.heap.size := by omega
    have p68 : w6.heap.size < w8.heap.size := by omega
    go_wp2_with fail
    go_ret
    exact ⟨rfl, (by repeat (first | exact Below.refl _ _ | assumption | refine Below.drew ?_ | refine belN ?_ _ | refine Below.alloc ?_ (by first | exact Nat.le_refl _ | (simp; done) | (simp; omega) | omega) _ | refine Below.setCell ?_ (by first | exact Nat.le_refl _ | (simp; done) | (simp; omega) | omega) _ | refine Below.trans ?_ (Below.mono (by assumption) (by first | exact Nat.le_refl _ | (simp; done) | (simp; omega) | omega))))⟩
  · go_enter Try.func3, Try.ntmps3
    go_wp2_with fail
    refine (sNodeNew_yes me _ h).mono ?_
    rintro e w1 ⟨rfl, hb1⟩
    obtain ⟨hc1, hf1, hz1⟩ := bcell hb1
    have hs1 := hb1.size
    try simp only [World.size_alloc] at hs1
    go_wp2_with fail
    refine (NodeNew_yes me _ h).mono ?_
    rintro e w2 ⟨rfl, hb2⟩
    obtain ⟨hc2, hf2, hz2⟩ := bcell hb2
    have hs2 := hb2.size
    try simp only [World.size_alloc] at hs2
    have p12 : w1.heap.size < w2.heap.size := by omega
    go_wp2_with fail
    refine (eqNode_same ⟨me, -1, 1, 0, -1, 0, -1, -1, 0⟩ none 0 0 none 0 [] _ ⟨rfl, Rd.nil _ _ _⟩ ⟨rfl, Rd.nil _ _ _⟩).mono ?_
    rintro e w3 ⟨rfl, hb3⟩
    obtain ⟨hc3, hf3, hz3⟩ := bcell hb3
    have hs3 := hb3.size
    try simp only [World.size_alloc] at hs3
    have p13 : w1.heap.size < w3.heap.size := by omega
    have p23 : w2.heap.size < w3.heap.size := by omega
    go_wp2_with fail
    refine (markNodeNil ⟨me, -1, 1, 0, -1, 0, -1, -1, 0⟩ none 0 1 _).mono ?_
    rintro e w4 ⟨rfl, hb4⟩
    obtain ⟨hc4, hf4, hz4⟩ := bcell hb4
    have hs4 := hb4.size
    try simp only [World.size_alloc] at hs4
    have p14 : w1.heap.size < w4.heap.size := by omega
    have p24 : w2.heap.size < w4.heap.size := by omega
    go_wp2_with fail
    refine (heldNodeNil ⟨me, -1, 1, 0, -1, 0, -1, -1, 0⟩ none 0 1 _ (by decide)).mono ?_
    rintro e w5 ⟨rfl, hb5⟩
    obtain ⟨hc5, hf5, hz5⟩ := bcell hb5
    have hs5 := hb5.size
    try simp only [World.size_alloc] at hs5
    have p15 : w1.heap.size < w5.heap.size := by omega
    have p25 : w2.heap.size < w5.heap.size := by omega
    go_wp2_with fail
    refine (NodeNew_yes me _ h).mono ?_
    rintro e w6 ⟨rfl, hb6⟩
    obtain ⟨hc6, hf6, hz6⟩ := bcell hb6
    have hs6 := hb6.size
    try simp only [World.size_alloc] at hs6
    have p16 : w1.heap.size < w6.heap.size := by omega
    have p26 : w2.heap.size < w6.heap.size := by omega
    go_wp2_with fail
    refine (eqNode_same ⟨me, -1, 1, 0, -1, 0, -1, -1, 0⟩ none 0 0 none 0 [] _ ⟨rfl, Rd.nil _ _ _⟩ ⟨rfl, Rd.nil _ _ _⟩).mono ?_
    rintro e w7 ⟨rfl, hb7⟩
    obtain ⟨hc7, hf7, hz7⟩ := bcell hb7
    have hs7 := hb7.size
    try simp only [World.size_alloc] at hs7
    have p17 : w1.heap.size < w7.heap.size := by omega
    have p27 : w2.heap.size < w7.heap.size := by omega
    have p67 : w6.heap.size < w7.heap.size := by omega
    go_wp2_with fail
    refine (heldNodeNil ⟨me, -1, 1, 0, -1, 0, -1, -1, 0⟩ none 0 1 _ (by decide)).mono ?_
    rintro e w8 ⟨rfl, hb8⟩
    obtain ⟨hc8, hf8, hz8⟩ := bcell hb8
    have hs8 := hb8.size
    try simp only [World.size_alloc] at hs8
    have p18 : w1.heap.size < w8.heap.size := by omega
    have p28 : w2.heap.size < w8.heap.size := by omega
    have p68 : w6.heap.size < w8.heap.size := by omega
    go_wp2_with fail
    go_ret
    exact ⟨rfl, (by repeat (first | exact Below.refl _ _ | assumption | refine Below.drew ?_ | refine belN ?_ _ | refine Below.alloc ?_ (by first | exact Nat.le_refl _ | (simp; done) | (simp; omega) | omega) _ | refine Below.setCell ?_ (by first | exact Nat.le_refl _ | (simp; done) | (simp; omega) | omega) _ | refine Below.trans ?_ (Below.mono (by assumption) (by first | exact Nat.le_refl _ | (simp; done) | (simp; omega) | omega))))⟩

set_option maxRecDepth 100000 in
theorem ExactNodeNew_lifted (os : Os) (started : os.Started) (H : Type) (enc : TypeId × Value → H) :
    ReturnsInHanded {} Try.checked os 3 .any (Rows.fnExactNodeNewSpec.pre6 enc Try.prog Try.f3 Rows.fnExactNodeNewRow.domain false) (Rows.fnExactNodeNewSpec.post enc Try.prog Try.f3 false true false false) := by
  refine returnsInHanded_of_change (C := Try.checked) own started (by kernel_rfl) Try.func3
    (ChangeSpec.witness6 (enc := enc) (C := Try.checked) false ⟨#[], #[.int .i64 0], []⟩ 8 (by kernel_rfl) (by kernel_rfl) (by kernel_rfl) (by kernel_rfl)) ?_
  intro W base args ds gs before hval0 hW hcnd _
  have hval : ∀ (j : Nat) t v, Try.f3.params[j]? = some t → args[j]? = some v → Value.okWide Try.prog W .any base t v := hval0
  have hW' := hW
  obtain ⟨p, q, hA0, hV, rfl, hfz, hnd⟩ := hW
  have hA : DataW.TrodAll enc Try.prog W 0 (fun _ => true) true Try.f3.params.toList args.toList ds p := hA0
  rw [Try.params3] at hA hval
  obtain ⟨v0, vs0, d0, ds0, p0, q0, hargs, rfl, rfl, h0, r0⟩ := trodAll_cons hA
  obtain ⟨rfl, rfl, rfl⟩ := trodAll_nil r0
  obtain rfl : args = #[v0] := by cases args; simp_all
  obtain ⟨me, rfl, rfl, rfl, _⟩ := open_int Try.underlying3 (hval 0 3 v0 rfl rfl) h0
  refine (ExactNodeNew_walk me W).mono fun e W' ⟨he, hb⟩ => ?_
  subst he
  refine ⟨_, rfl, law_post (f := Try.f3) (tb := 4) rfl Try.underlying4 rfl (by kernel_rfl) (fun gs hg => by subst hg; rfl) (fun gs hg => by subst hg; rfl) (fun gs hg => by subst hg; rfl) hW' hb⟩

theorem ExactNodeNew_holds : Rows.FnExactNodeNewSaid :=
  OpenClaim.holds_of_wide 3 Try.f3 rfl rfl rfl rfl rfl rfl rfl ⟨rfl, rfl, rfl, rfl, rfl⟩ rfl rfl rfl rfl rfl (by kernel_rfl) Try.func3 (by kernel_rfl)
    (of_decide_eq_true (by kernel_rfl)) (by unfold Func.isWrapper; first | (rw [if_pos (by decide +kernel)]; kernel_rfl) | (rw [if_neg (by decide +kernel)]; exact ⟨rfl, rfl⟩))
    (fun os started H enc _ => ExactNodeNew_lifted os started H enc)
#print axioms ExactNodeNew_holds
end Go.Proofs.Ytbadfamoiccppaa
