/- The program's GuardOk returns what the reference's returns, for all arguments. No conditions. -/
import Derived.Test.YtnnihkjmbdgoiaaB
import Derived.Test.YtnnihkjmbdgoiaaL
namespace Go.Proofs.Ytnnihkjmbdgoiaa
open Go.ChangeShapes Go.WideShapes Go.ChangeAt Go.RowKit Go.Joins

theorem ExactGuardOk_walk (h r st : Int) (id : ByteArray) (w : World) (hs : id.size ≤ maxLen) :
    Calls Try.prog 6 #[.agg #[.int .i64 h, .int .i64 r, .int .i64 st, .string id]] w fun e w' => e = .returned (.bool true) ∧ Below w.heap.size w w' := by
  have HS := Lib.hid hs
  clear hs
  by_cases hc : (1048576 : Int) < id.size
  all_goals
    go_enter Try.func6, Try.ntmps6
    go_wp2_with (first | (go_at_call 16; (with_reducible refine (szGuard_any _ _ _ _ _ _ (by decide) (by decide) HS.out).mono ?_); (first | rw [if_pos hc] | rw [if_neg hc]); rintro e w1 ⟨rfl, hb⟩; obtain ⟨hcc, hf, hz⟩ := bcell hb; (try simp only [World.size_alloc] at hz); have hy := nlt (by omega : w.heap.size + 1 ≤ w1.heap.size)) | (go_at_call 18; (with_reducible refine (toGuard_any _ _ _ _ _).mono ?_); rintro e w1 ⟨rfl, hb⟩; obtain ⟨hc, hf, hz⟩ := bcell hb; (try simp only [World.size_drew] at hz); (try simp only [World.size_alloc] at hz); have hy := nlt (by omega : w.heap.size + 1 ≤ w1.heap.size)) | (go_at_call 17; (with_reducible refine (sGuardOk_any _ _ _ _ _).mono ?_); rintro e w1 ⟨rfl, hb⟩; obtain ⟨hc, hf, hz⟩ := bcell hb; (try simp only [World.size_drew] at hz); (try simp only [World.size_alloc] at hz); have hy := nlt (by omega : w.heap.size + 1 ≤ w1.heap.size)) | (go_at_call 19; (with_reducible refine (GuardOk_any _ _ _ _ _).mono ?_); rintro e w1 ⟨rfl, hb⟩; obtain ⟨hc, hf, hz⟩ := bcell hb; (try simp only [World.size_drew] at hz); (try simp only [World.size_alloc] at hz); have hy := nlt (by omega : w.heap.size + 1 ≤ w1.heap.size)))
    go_ret
    exact ⟨rfl, (by repeat (first | exact Below.refl _ _ | assumption | refine Below.drew ?_ | refine belN ?_ _ | refine Below.alloc ?_ (by first | exact Nat.le_refl _ | (simp; done) | (simp; omega) | omega) _ | refine Below.setCell ?_ (by first | exact Nat.le_refl _ | (simp; done) | (simp; omega) | omega) _ | refine Below.trans ?_ (Below.mono (by assumption) (by first | exact Nat.le_refl _ | (simp; done) | (simp; omega) | omega))))⟩

set_option maxRecDepth 100000 in
theorem ExactGuardOk_lifted (os : Os) (started : os.Started) (H : Type) (enc : TypeId × Value → H) :
    ReturnsInHanded {} Try.checked os 6 .any (Rows.fnExactGuardOkSpec.pre6 enc Try.prog Try.f6 Rows.fnExactGuardOkRow.domain false) (Rows.fnExactGuardOkSpec.post enc Try.prog Try.f6 false true false false) := by
  refine returnsInHanded_of_change (C := Try.checked) own started (by kernel_rfl) Try.func6
    (ChangeSpec.witness6 (enc := enc) (C := Try.checked) false ⟨#[], #[.agg #[.int .i64 0, .int .i64 0, .int .i64 0, .string ByteArray.empty]], []⟩ 8 (by kernel_rfl) (by kernel_rfl) (by kernel_rfl) (by kernel_rfl)) ?_
  intro W base args ds gs before hval0 hW hcnd _
  have hval : ∀ (j : Nat) t v, Try.f6.params[j]? = some t → args[j]? = some v → Value.okWide Try.prog W .any base t v := hval0
  have hW' := hW
  obtain ⟨p, q, hA0, hV, rfl, hfz, hnd⟩ := hW
  have hA : DataW.TrodAll enc Try.prog W 0 (fun _ => true) true Try.f6.params.toList args.toList ds p := hA0
  rw [Try.params6] at hA hval
  obtain ⟨v0, vs0, d0, ds0, p0, q0, hargs, rfl, rfl, h0, r0⟩ := trodAll_cons hA
  obtain ⟨rfl, rfl, rfl⟩ := trodAll_nil r0
  obtain rfl : args = #[v0] := by cases args; simp_all
  obtain ⟨c0, c1, c2, c3, y0, y1, y2, y3, m, rfl, rfl, rfl, hy0, hy1, hy2, hy3⟩ := open_agg4 Try.underlying33 (by kernel_rfl) (by kernel_rfl) (hval 0 33 v0 rfl rfl) h0
  obtain ⟨a, rfl, _, _⟩ := field_int Try.underlying3 hy0
  obtain ⟨b, rfl, _, _⟩ := field_int Try.underlying3 hy1
  obtain ⟨c, rfl, _, _⟩ := field_int Try.underlying3 hy2
  obtain ⟨s, rfl, hs⟩ := field_string Try.underlying9 hy3
  refine (ExactGuardOk_walk a b c s W hs).mono fun e W' ⟨he, hb⟩ => ?_
  subst he
  refine ⟨_, rfl, law_post (f := Try.f6) (tb := 4) rfl Try.underlying4 rfl (by kernel_rfl) (fun gs hg => by subst hg; rfl) (fun gs hg => by subst hg; rfl) (fun gs hg => by subst hg; rfl) hW' hb⟩

theorem ExactGuardOk_holds : Rows.FnExactGuardOkSaid :=
  OpenClaim.holds_of_wide 6 Try.f6 rfl rfl rfl rfl rfl rfl rfl ⟨rfl, rfl, rfl, rfl, rfl⟩ rfl rfl rfl rfl rfl (by kernel_rfl) Try.func6 (by kernel_rfl)
    (of_decide_eq_true (by kernel_rfl)) (by unfold Func.isWrapper; first | (rw [if_pos (by decide +kernel)]; kernel_rfl) | (rw [if_neg (by decide +kernel)]; exact ⟨rfl, rfl⟩))
    (fun os started H enc _ => ExactGuardOk_lifted os started H enc)
#print axioms ExactGuardOk_holds
end Go.Proofs.Ytnnihkjmbdgoiaa
