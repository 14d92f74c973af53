/- The program's MsgOk returns what the reference's returns, for all arguments. No conditions. -/
import Derived.Test.YtnnihkjmbdgoiaaC
import Derived.Test.YtnnihkjmbdgoiaaL
import Derived.Lib.Hide
namespace Go.Proofs.Ytnnihkjmbdgoiaa
open Go.ChangeShapes Go.WideShapes Go.ChangeAt Go.RowKit Go.Joins

theorem ExactMsgOk_walk (k r v p f : Int) (w : World) :
    Calls Try.prog 8 #[.agg #[.int .i64 k, .int .i64 r, .int .i64 v, .int .i64 p, .int .i64 f]] w fun e w' => e = .returned (.bool true) ∧ Below w.heap.size w w' := by
  go_enter Try.func8, Try.ntmps8
  go_wp2_with (first | (go_at_call 23; (with_reducible refine (toNMsg_any _ _ _ _ _ _).mono ?_); rintro e w1 ⟨rfl, hb⟩; obtain ⟨hc, hf, hz⟩ := bcell hb; (try simp only [World.size_drew] at hz); (try simp only [World.size_alloc] at hz); have hy := nlt (by omega : w.heap.size + 1 ≤ w1.heap.size)) | (go_at_call 22; (with_reducible refine (sMsgOk_any _ _ _ _ _ _).mono ?_); rintro e w1 ⟨rfl, hb⟩; obtain ⟨hc, hf, hz⟩ := bcell hb; (try simp only [World.size_drew] at hz); (try simp only [World.size_alloc] at hz); have hy := nlt (by omega : w.heap.size + 1 ≤ w1.heap.size)) | (go_at_call 24; (with_reducible refine (MsgOk_any _ _ _ _ _ _).mono ?_); rintro e w1 ⟨rfl, hb⟩; obtain ⟨hc, hf, hz⟩ := bcell hb; (try simp only [World.size_drew] at hz); (try simp only [World.size_alloc] at hz); have hy := nlt (by omega : w.heap.size + 1 ≤ w1.heap.size)))
  go_ret
  exact ⟨rfl, (by repeat (first | exact Below.refl _ _ | assumption | refine Below.drew ?_ | refine belN ?_ _ | refine Below.alloc ?_ (by first | exact Nat.le_refl _ | (simp; done) | (simp; omega) | omega) _ | refine Below.setCell ?_ (by first | exact Nat.le_refl _ | (simp; done) | (simp; omega) | omega) _ | refine Below.trans ?_ (Below.mono (by assumption) (by first | exact Nat.le_refl _ | (simp; done) | (simp; omega) | omega))))⟩

set_option maxRecDepth 100000 in
theorem ExactMsgOk_lifted (os : Os) (started : os.Started) (H : Type) (enc : TypeId × Value → H) :
    ReturnsInHanded {} Try.checked os 8 .any (Rows.fnExactMsgOkSpec.pre6 enc Try.prog Try.f8 Rows.fnExactMsgOkRow.domain false) (Rows.fnExactMsgOkSpec.post enc Try.prog Try.f8 false true false false) := by
  refine returnsInHanded_of_change (C := Try.checked) own started (by kernel_rfl) Try.func8
    (ChangeSpec.witness6 (enc := enc) (C := Try.checked) false ⟨#[], #[.agg #[.int .i64 0, .int .i64 0, .int .i64 0, .int .i64 0, .int .i64 0]], []⟩ 8 (by kernel_rfl) (by kernel_rfl) (by kernel_rfl) (by kernel_rfl)) ?_
  intro W base args ds gs before hval0 hW hcnd _
  have hval : ∀ (j : Nat) t v, Try.f8.params[j]? = some t → args[j]? = some v → Value.okWide Try.prog W .any base t v := hval0
  have hW' := hW
  obtain ⟨p, q, hA0, hV, rfl, hfz, hnd⟩ := hW
  have hA : DataW.TrodAll enc Try.prog W 0 (fun _ => true) true Try.f8.params.toList args.toList ds p := hA0
  rw [Try.params8] at hA hval
  obtain ⟨v0, vs0, d0, ds0, p0, q0, hargs, rfl, rfl, h0, r0⟩ := trodAll_cons hA
  obtain ⟨rfl, rfl, rfl⟩ := trodAll_nil r0
  obtain rfl : args = #[v0] := by cases args; simp_all
  obtain ⟨c0, c1, c2, c3, c4, y0, y1, y2, y3, y4, m, rfl, rfl, rfl, hy0, hy1, hy2, hy3, hy4⟩ := open_agg5 Try.underlying41 (by kernel_rfl) (by kernel_rfl) (hval 0 41 v0 rfl rfl) h0
  obtain ⟨a, rfl, _, _⟩ := field_int Try.underlying3 hy0
  obtain ⟨b, rfl, _, _⟩ := field_int Try.underlying3 hy1
  obtain ⟨c, rfl, _, _⟩ := field_int Try.underlying3 hy2
  obtain ⟨d, rfl, _, _⟩ := field_int Try.underlying3 hy3
  obtain ⟨e, rfl, _, _⟩ := field_int Try.underlying3 hy4
  refine (ExactMsgOk_walk a b c d e W).mono fun e W' ⟨he, hb⟩ => ?_
  subst he
  refine ⟨_, rfl, law_post (f := Try.f8) (tb := 4) rfl Try.underlying4 rfl (by kernel_rfl) (fun gs hg => by subst hg; rfl) (fun gs hg => by subst hg; rfl) (fun gs hg => by subst hg; rfl) hW' hb⟩

theorem ExactMsgOk_holds : Rows.FnExactMsgOkSaid :=
  OpenClaim.holds_of_wide 8 Try.f8 rfl rfl rfl rfl rfl rfl rfl ⟨rfl, rfl, rfl, rfl, rfl⟩ rfl rfl rfl rfl rfl (by kernel_rfl) Try.func8 (by kernel_rfl)
    (of_decide_eq_true (by kernel_rfl)) (by unfold Func.isWrapper; first | (rw [if_pos (by decide +kernel)]; kernel_rfl) | (rw [if_neg (by decide +kernel)]; exact ⟨rfl, rfl⟩))
    (fun os started H enc _ => ExactMsgOk_lifted os started H enc)
#print axioms ExactMsgOk_holds
end Go.Proofs.Ytnnihkjmbdgoiaa
