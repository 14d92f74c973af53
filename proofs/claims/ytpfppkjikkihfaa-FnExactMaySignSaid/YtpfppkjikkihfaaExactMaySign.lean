/- The program's MaySign returns what the reference's returns, for all arguments. No conditions. -/
import Derived.Test.YtpfppkjikkihfaaMaySign2
import Derived.Test.YtpfppkjikkihfaaL
namespace Go.Proofs.Ytpfppkjikkihfaa
open Go.ChangeShapes Go.WideShapes Go.ChangeAt Go.RowKit Go.Joins

theorem ExactMaySign_walk (gh gr gs : Int) (gi : ByteArray) (vh vr vs : Int) (vi : ByteArray) (vv : Int) (w : World) (h1 : gi.size ≤ maxLen) (h2 : vi.size ≤ maxLen) :
    Calls Try.prog 3 #[.agg #[.int .i64 gh, .int .i64 gr, .int .i64 gs, .string gi], .agg #[.int .i64 vh, .int .i64 vr, .int .i64 vs, .string vi, .int .i64 vv]] w fun e w' => e = .returned (.bool true) ∧ Below w.heap.size w w' := by
  have H1 := Lib.hid h1; have H2 := Lib.hid h2
  have h1' := h1
  unfold maxLen at h1'
  clear h1 h2
  by_cases hc : (1048576 : Int) < gi.size
  · go_enter Try.func3, Try.ntmps3
    go_wp2_with (go_at_call 10; (with_reducible refine (szGuard_any _ _ _ _ _ _ (by decide) (by decide) H1.out).mono ?_); rw [if_pos hc]; rintro e w1 ⟨rfl, hb⟩; obtain ⟨hcc, hf, hz⟩ := bcell hb; (try simp only [World.size_alloc] at hz); have hy := nlt (by omega : w.heap.size + 2 ≤ w1.heap.size))
    go_ret
    exact ⟨rfl, (by repeat (first | exact Below.refl _ _ | assumption | refine Below.drew ?_ | refine belN ?_ _ | refine Below.alloc ?_ (by first | exact Nat.le_refl _ | (simp; done) | (simp; omega) | omega) _ | refine Below.setCell ?_ (by first | exact Nat.le_refl _ | (simp; done) | (simp; omega) | omega) _ | refine Below.trans ?_ (Below.mono (by assumption) (by first | exact Nat.le_refl _ | (simp; done) | (simp; omega) | omega))))⟩
  have hc0 : (0 : Int) ≤ 1048576 - gi.size := by omega
  by_cases hd : (1048576 : Int) - gi.size < vi.size
  · go_enter Try.func3, Try.ntmps3
    go_wp2_with (first
    | (go_at_call 10; (with_reducible refine (szGuard_any _ _ _ _ _ _ (by decide) (by decide) H1.out).mono ?_); rw [if_neg (show ¬ ((1048576 : Int) < gi.size) by omega)]; rintro e w1 ⟨rfl, hb⟩; obtain ⟨hcc, hf, hz⟩ := bcell hb; (try simp only [World.size_alloc] at hz); have hy := nlt (by omega : w.heap.size + 2 ≤ w1.heap.size))
    | (go_at_call 11; (with_reducible refine (szVote_any _ _ _ _ _ _ _ hc0 (by omega) H2.out).mono ?_); (first | rw [if_pos hd] | rw [if_neg (show ¬ ((1048576 : Int) - gi.size < vi.size) by omega)]); rintro e w1 ⟨rfl, hb⟩; obtain ⟨hcc, hf, hz⟩ := bcell hb; have hy := nlt (by omega : w.heap.size + 2 ≤ w1.heap.size)))
    go_ret
    exact ⟨rfl, (by repeat (first | exact Below.refl _ _ | assumption | refine Below.drew ?_ | refine belN ?_ _ | refine Below.alloc ?_ (by first | exact Nat.le_refl _ | (simp; done) | (simp; omega) | omega) _ | refine Below.setCell ?_ (by first | exact Nat.le_refl _ | (simp; done) | (simp; omega) | omega) _ | refine Below.trans ?_ (Below.mono (by assumption) (by first | exact Nat.le_refl _ | (simp; done) | (simp; omega) | omega))))⟩
  go_enter Try.func3, Try.ntmps3
  go_wp2_with (first
    | (go_at_call 10; (with_reducible refine (szGuard_any _ _ _ _ _ _ (by decide) (by decide) H1.out).mono ?_); rw [if_neg (show ¬ ((1048576 : Int) < gi.size) by omega)]; rintro e w1 ⟨rfl, hb⟩; obtain ⟨hcc, hf, hz⟩ := bcell hb; (try simp only [World.size_alloc] at hz); have hy := nlt (by omega : w.heap.size + 2 ≤ w1.heap.size))
    | (go_at_call 11; (with_reducible refine (szVote_any _ _ _ _ _ _ _ hc0 (by omega) H2.out).mono ?_); (first | rw [if_pos hd] | rw [if_neg (show ¬ ((1048576 : Int) - gi.size < vi.size) by omega)]); rintro e w1 ⟨rfl, hb⟩; obtain ⟨hcc, hf, hz⟩ := bcell hb; have hy := nlt (by omega : w.heap.size + 2 ≤ w1.heap.size)))
  have k00 : w1.cell? ⟨w.heap.size, 0, none⟩ = some (.int .i64 gh) := by go_simp
  have k01 : w1.cell? ⟨w.heap.size, 1, none⟩ = some (.int .i64 gr) := by go_simp
  have k02 : w1.cell? ⟨w.heap.size, 2, none⟩ = some (.int .i64 gs) := by go_simp
  have k03 : w1.cell? ⟨w.heap.size, 3, none⟩ = some (.string gi) := by go_simp
  have k10 : w1.cell? ⟨w.heap.size + 1, 0, none⟩ = some (.int .i64 vh) := by go_simp
  have k11 : w1.cell? ⟨w.heap.size + 1, 1, none⟩ = some (.int .i64 vr) := by go_simp
  have k12 : w1.cell? ⟨w.heap.size + 1, 2, none⟩ = some (.int .i64 vs) := by go_simp
  have k13 : w1.cell? ⟨w.heap.size + 1, 3, none⟩ = some (.string vi) := by go_simp
  have k14 : w1.cell? ⟨w.heap.size + 1, 4, none⟩ = some (.int .i64 vv) := by go_simp
  have HB : Hid (Below w.heap.size w w1) := (by repeat (first | exact Below.refl _ _ | assumption | refine Below.drew ?_ | refine belN ?_ _ | refine Below.alloc ?_ (by first | exact Nat.le_refl _ | (simp; done) | (simp; omega) | omega) _ | refine Below.setCell ?_ (by first | exact Nat.le_refl _ | (simp; done) | (simp; omega) | omega) _ | refine Below.trans ?_ (Below.mono (by assumption) (by first | exact Nat.le_refl _ | (simp; done) | (simp; omega) | omega))))
  have n0 : w.heap.size < w1.heap.size := hy.1
  have n1 : w.heap.size + 1 < w1.heap.size := hy.2 1 (by omega)
  have hle := hb.size
  clear hb hcc hf hy hz
  refine wp_region_below (by kernel_rfl) (by kernel_rfl) ?_
  repeat (first | go_big_quiet_skip | (go_big_quiet_want; go_big_quiet_op; first | go_big_quiet_on | (apply Exists.intro; refine ⟨fun w1 hC => ?_, ?_⟩; (focus (first | rfl | (go_at_call 13; exact quiet_below hC (toGuard_any _ _ _ _ _)) | (go_at_call 14; exact quiet_below hC (toVote_any _ _ _ _ _ _)) | (go_at_call 12; exact quiet_below hC (sMaySign_any _ _ _ _ _ _ _ _ _ _)) | (go_at_call 15; exact quiet_below hC (MaySign_any _ _ _ _ _ _ _ _ _ _)) | (simp [(bcell hC).1, n0, n1, k00, k01, k02, k03, k10, k11, k12, k13, k14]; done) | (simp [(bcell hC).1, n0, n1, k00, k01, k02, k03, k10, k11, k12, k13, k14]; rfl))); go_big_quiet_on)))
  refine wpQuiet_nil ?_
  intro w2 hb2
  obtain ⟨hc2, hf2, hz2⟩ := bcell hb2
  have m00 : w2.cell? ⟨w.heap.size, 0, none⟩ = some (.int .i64 gh) := by rw [hc2 _ _ (by omega)]; exact k00
  have m01 : w2.cell? ⟨w.heap.size, 1, none⟩ = some (.int .i64 gr) := by rw [hc2 _ _ (by omega)]; exact k01
  have m02 : w2.cell? ⟨w.heap.size, 2, none⟩ = some (.int .i64 gs) := by rw [hc2 _ _ (by omega)]; exact k02
  have m03 : w2.cell? ⟨w.heap.size, 3, none⟩ = some (.string gi) := by rw [hc2 _ _ (by omega)]; exact k03
  have m10 : w2.cell? ⟨w.heap.size + 1, 0, none⟩ = some (.int .i64 vh) := by rw [hc2 _ _ (by omega)]; exact k10
  have m11 : w2.cell? ⟨w.heap.size + 1, 1, none⟩ = some (.int .i64 vr) := by rw [hc2 _ _ (by omega)]; exact k11
  have m12 : w2.cell? ⟨w.heap.size + 1, 2, none⟩ = some (.int .i64 vs) := by rw [hc2 _ _ (by omega)]; exact k12
  have m13 : w2.cell? ⟨w.heap.size + 1, 3, none⟩ = some (.string vi) := by rw [hc2 _ _ (by omega)]; exact k13
  have m14 : w2.cell? ⟨w.heap.size + 1, 4, none⟩ = some (.int .i64 vv) := by rw [hc2 _ _ (by omega)]; exact k14
  have HB2 : Hid (Below w.heap.size w w2) := HB.out.trans (hb2.mono (by omega))
  have n2 : w.heap.size < w2.heap.size := by omega
  have n3 : w.heap.size + 1 < w2.heap.size := by omega
  clear hb2 hc2 hf2 hz2
  go_wp2_with fail
  refine wp_region_below (by kernel_rfl) (by kernel_rfl) ?_
  repeat (first | go_big_quiet_skip | (go_big_quiet_want; go_big_quiet_op; first | go_big_quiet_on | (apply Exists.intro; refine ⟨fun w1 hC => ?_, ?_⟩; (focus (first | rfl | (go_at_call 13; exact quiet_below hC (toGuard_any _ _ _ _ _)) | (go_at_call 14; exact quiet_below hC (toVote_any _ _ _ _ _ _)) | (go_at_call 12; exact quiet_below hC (sMaySign_any _ _ _ _ _ _ _ _ _ _)) | (go_at_call 15; exact quiet_below hC (MaySign_any _ _ _ _ _ _ _ _ _ _)) | (simp [(bcell hC).1, n2, n3, m00, m01, m02, m03, m10, m11, m12, m13, m14]; done) | (simp [(bcell hC).1, n2, n3, m00, m01, m02, m03, m10, m11, m12, m13, m14]; rfl))); go_big_quiet_on)))
  refine wpQuiet_nil ?_
  intro w2 hb2
  obtain ⟨hc2, hf2, hz2⟩ := bcell hb2
  have hs3 := HB2.out.size
  go_wp2
  go_ret
  exact ⟨rfl, HB2.out.trans (hb2.mono (by omega))⟩

set_option maxRecDepth 100000 in
theorem ExactMaySign_lifted (os : Os) (started : os.Started) (H : Type) (enc : TypeId × Value → H) :
    ReturnsInHanded {} Try.checked os 3 .any (Rows.fnExactMaySignSpec.pre6 enc Try.prog Try.f3 Rows.fnExactMaySignRow.domain false) (Rows.fnExactMaySignSpec.post enc Try.prog Try.f3 false true false false) := by
  refine returnsInHanded_of_change (C := Try.checked) own started (by kernel_rfl) Try.func3
    (ChangeSpec.witness6 (enc := enc) (C := Try.checked) false ⟨#[], #[.agg #[.int .i64 0, .int .i64 0, .int .i64 0, .string ByteArray.empty], .agg #[.int .i64 0, .int .i64 0, .int .i64 0, .string ByteArray.empty, .int .i64 0]], []⟩ 8 (by kernel_rfl) (by kernel_rfl) (by kernel_rfl) (by kernel_rfl)) ?_
  intro W base args ds gs before hval0 hW hcnd _
  have hval : ∀ (j : Nat) t v, Try.f3.params[j]? = some t → args[j]? = some v → Value.okWide Try.prog W .any base t v := hval0
  have hW' := hW
  obtain ⟨p, q, hA0, hV, rfl, hfz, hnd⟩ := hW
  have hA : DataW.TrodAll enc Try.prog W 0 (fun _ => true) true Try.f3.params.toList args.toList ds p := hA0
  rw [Try.params3] at hA hval
  obtain ⟨v0, vs0, d0, ds0, p0, q0, hargs, rfl, rfl, h0, r0⟩ := trodAll_cons hA
  obtain ⟨v1, vs1, d1, ds1, p1, q1, rfl, rfl, rfl, h1, r1⟩ := trodAll_cons r0
  obtain ⟨rfl, rfl, rfl⟩ := trodAll_nil r1
  obtain rfl : args = #[v0, v1] := by cases args; simp_all
  obtain ⟨c0, c1, c2, c3, y0, y1, y2, y3, m, rfl, rfl, rfl, hy0, hy1, hy2, hy3⟩ := open_agg4 Try.underlying23 (by kernel_rfl) (by kernel_rfl) (hval 0 23 v0 rfl rfl) h0
  obtain ⟨a, rfl, _, _⟩ := field_int Try.underlying3 hy0
  obtain ⟨b, rfl, _, _⟩ := field_int Try.underlying3 hy1
  obtain ⟨c, rfl, _, _⟩ := field_int Try.underlying3 hy2
  obtain ⟨s, rfl, hs⟩ := field_string Try.underlying9 hy3
  obtain ⟨e0, e1, e2, e3, e4, z0, z1, z2, z3, z4, m', rfl, rfl, rfl, hz0, hz1, hz2, hz3, hz4⟩ := open_agg5 Try.underlying25 (by kernel_rfl) (by kernel_rfl) (hval 1 25 v1 rfl rfl) h1
  obtain ⟨a', rfl, _, _⟩ := field_int Try.underlying3 hz0
  obtain ⟨b', rfl, _, _⟩ := field_int Try.underlying3 hz1
  obtain ⟨c', rfl, _, _⟩ := field_int Try.underlying3 hz2
  obtain ⟨s', rfl, hs'⟩ := field_string Try.underlying9 hz3
  obtain ⟨d', rfl, _, _⟩ := field_int Try.underlying3 hz4
  refine (ExactMaySign_walk a b c s a' b' c' s' d' W hs hs').mono fun e W' ⟨he, hb⟩ => ?_
  subst he
  refine ⟨_, rfl, law_post (f := Try.f3) (tb := 4) rfl Try.underlying4 rfl (by kernel_rfl) (fun gs hg => by subst hg; rfl) (fun gs hg => by subst hg; rfl) (fun gs hg => by subst hg; rfl) hW' hb⟩

theorem ExactMaySign_holds : Rows.FnExactMaySignSaid :=
  OpenClaim.holds_of_wide 3 Try.f3 rfl rfl rfl rfl rfl rfl rfl ⟨rfl, rfl, rfl, rfl, rfl⟩ rfl rfl rfl rfl rfl (by kernel_rfl) Try.func3 (by kernel_rfl)
    (of_decide_eq_true (by kernel_rfl)) (by unfold Func.isWrapper; first | (rw [if_pos (by decide +kernel)]; kernel_rfl) | (rw [if_neg (by decide +kernel)]; exact ⟨rfl, rfl⟩))
    (fun os started H enc _ => ExactMaySign_lifted os started H enc)
#print axioms ExactMaySign_holds
end Go.Proofs.Ytpfppkjikkihfaa
