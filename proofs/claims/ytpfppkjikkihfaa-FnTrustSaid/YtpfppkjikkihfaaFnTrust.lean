/- FnTrust: no header is fresh forever; the remaining time decreases by one with each unit of time. No conditions. -/
import Derived.Test.YtpfppkjikkihfaaDrawTime
import Derived.Test.YtpfppkjikkihfaaA
import Derived.Test.YtpfppkjikkihfaaFnL
namespace Go.Proofs.Ytpfppkjikkihfaa
open Go.ChangeShapes Go.WideShapes Go.ChangeAt Go.RowKit Go.Joins

set_option maxRecDepth 100000 in
set_option maxHeartbeats 1000000 in
theorem FnTrust_walk (A : Option Addr) (n c : Nat) (l : List UInt8) (w : World) (hl : RdL octC 1 w w.heap.size A n c l) :
    Calls Try.prog 4 #[.slice A n c] w fun e w' => e = .returned (.bool true) ∧ Below w.heap.size w w' := by
  have HL := Lib.hid hl
  clear hl
  by_cases hn : (1048576 : Int) < n
  · have hnb : decide ((1048576 : Int) < n) = true := decide_eq_true hn
    go_enter Try.func4, Try.ntmps4
    go_wp2_with (go_at_call 16; (with_reducible refine (big_any A n c _).mono ?_); rintro e w' ⟨rfl, rfl⟩)
    go_ret
    exact ⟨rfl, Below.refl _ _⟩
  have hnb : decide ((1048576 : Int) < n) = false := decide_eq_false hn
  go_enter Try.func4, Try.ntmps4
  go_wp2_with (go_at_call 16; (with_reducible refine (big_any A n c _).mono ?_); rintro e w' ⟨rfl, rfl⟩)
  refine (DrawTimeLeft_any A n c l _ HL.out (by omega)).mono ?_
  rintro e w1 ⟨p, s, a, t, rfl, hb⟩
  have HB1 := Lib.hid hb
  have hs1 := hb.size
  clear hb hnb
  obtain ⟨N, hN⟩ : ∃ N, leftN p s a t = N := ⟨_, rfl⟩
  obtain ⟨X, hX⟩ : ∃ X, expiresN p s a = X := ⟨_, rfl⟩
  have HN := Lib.hid hN
  have HX := Lib.hid hX
  have hcase : N = 0 ∨ (N ≠ 0 ∧ trustB p s = true ∧ inB a 0 1000000 = true ∧ inB t 0 1000000 = true ∧ N = a + p - t ∧ 0 < N ∧ X = a + p) := by
    unfold leftN at hN
    split at hN
    · rename_i h
      simp only [Bool.and_eq_true, decide_eq_true_eq] at h
      obtain ⟨⟨⟨h1, h2⟩, h3⟩, h4⟩ := h
      refine .inr ⟨by omega, h1, h2, h3, hN.symm, by omega, ?_⟩
      rw [← hX]; exact expiresN_yes p s a h1 h2
    · exact .inl hN.symm
  clear hN hX
  go_wp2_with fail
  refine (TimeLeft_any p s a t _).mono ?_
  rw [HN.out]
  rintro e w2 ⟨rfl, hb⟩
  have hlt1 : w1.heap.size < w2.heap.size := by have := hb.size; simp at this; omega
  have t0 : w2.cell? ⟨w1.heap.size, 0, none⟩ = some (.int .i64 p) := by rw [hb.cell (p := ⟨w1.heap.size, 0, none⟩) (by simp)]; simp
  have t1 : w2.cell? ⟨w1.heap.size, 1, none⟩ = some (.int .i64 s) := by rw [hb.cell (p := ⟨w1.heap.size, 1, none⟩) (by simp)]; simp
  have HB2 : Hid (Below w.heap.size w w2) := HB1.out.trans (((Below.refl _ _).alloc (Nat.le_refl _) _).trans (hb.mono (by simp)) |>.mono hs1)
  clear hb
  have hTL : ∀ w, Hid (Calls Try.prog 19 #[.agg #[.int .i64 p, .int .i64 s], .int .i64 a, .int .i64 t] w fun e w' => e = .returned (.int .i64 N) ∧ Below w.heap.size w w') := fun w => by have h := sTimeLeft_any p s a t w; rw [HN.out] at h; exact h
  have hE : ∀ w, Hid (Calls Try.prog 22 #[.agg #[.int .i64 p, .int .i64 s], .int .i64 a] w fun e w' => e = .returned (.int .i64 X) ∧ Below w.heap.size w w') := fun w => by have h := Expires_any p s a w; rw [HX.out] at h; exact h
  have hsE : ∀ w, Hid (Calls Try.prog 23 #[.agg #[.int .i64 p, .int .i64 s], .int .i64 a] w fun e w' => e = .returned (.int .i64 X) ∧ Below w.heap.size w w') := fun w => by have h := sExpires_any p s a w; rw [HX.out] at h; exact h
  obtain ⟨F, hF⟩ : ∃ F, freshB p s a t = F := ⟨_, rfl⟩
  have HF := Lib.hid hF
  clear hF
  have hFr : ∀ w, Hid (Calls Try.prog 20 #[.agg #[.int .i64 p, .int .i64 s], .int .i64 a, .int .i64 t] w fun e w' => e = .returned (.bool F) ∧ Below w.heap.size w w') := fun w => by have h := Fresh_any p s a t w; rw [HF.out] at h; exact h
  have hsF : ∀ w, Hid (Calls Try.prog 21 #[.agg #[.int .i64 p, .int .i64 s], .int .i64 a, .int .i64 t] w fun e w' => e = .returned (.bool F) ∧ Below w.heap.size w w') := fun w => by have h := sFresh_any p s a t w; rw [HF.out] at h; exact h
  go_wp2_with fail
  refine wp_region_below (by kernel_rfl) (by kernel_rfl) ?_
  repeat (first | go_big_quiet_skip | (go_big_quiet_want; go_big_quiet_op; first | go_big_quiet_on | (apply Exists.intro; refine ⟨fun w1 hC => ?_, ?_⟩; (focus (first | rfl | (go_at_call 19; exact quiet_below hC ((hTL _).out)) | (go_at_call 22; exact quiet_below hC ((hE _).out)) | (go_at_call 23; exact quiet_below hC ((hsE _).out)) | (go_at_call 20; exact quiet_below hC ((hFr _).out)) | (go_at_call 21; exact quiet_below hC ((hsF _).out)) | (simp [(bcell hC).1, hlt1, t0, t1]; done) | (simp [(bcell hC).1, hlt1, t0, t1]; rfl))); go_big_quiet_on)))
  refine wpQuiet_nil ?_
  intro w2 hb2
  obtain ⟨hc2, hf2, hz2⟩ := bcell hb2
  go_upto_region 7 with fail
  have HB3 := Lib.hid (HB2.out.trans (hb2.mono HB2.out.size))
  have hlt2 : w1.heap.size < w2.heap.size := by omega
  have u0 := (hb2.cell (p := ⟨w1.heap.size, 0, none⟩) hlt1).trans t0
  have u1 := (hb2.cell (p := ⟨w1.heap.size, 1, none⟩) hlt1).trans t1
  obtain ⟨w3, hw3⟩ : ∃ q, q = w2 := ⟨_, rfl⟩
  subst hw3
  clear hb2 hc2 hf2 hz2 t0 t1 hTL hsE hFr hsF
  rcases hcase with rfl | ⟨hN0, h1, h2, h3, h4, h5, h6⟩
  · go_wp2_with fail
    go_ret
    exact ⟨rfl, HB3.out⟩
  obtain ⟨b1, b2, b3, b4⟩ := trustB_bd h1
  obtain ⟨b5, b6⟩ := inB_bd h2
  obtain ⟨b7, b8⟩ := inB_bd h3
  have hN0b : (N == 0) = false := by simpa using hN0
  have H1 := Lib.hid h1
  have H2 := Lib.hid h2
  have heq : (t + N == X) = true := by simp; omega
  have hF2 : freshB p s a (t + N + 1) = false ∨ True := .inr trivial
  clear h1 h2 h3 hF2
  have done : ∀ q : World, True := fun _ => trivial
  clear done
  go_wp2_with fail
  refine ((hE _).out).mono ?_
  rintro e w4 ⟨rfl, hb⟩
  have hlt4 : w1.heap.size < w4.heap.size := by have := hb.size; omega
  have v0 := (hb.cell (p := ⟨w1.heap.size, 0, none⟩) hlt2).trans u0
  have v1 := (hb.cell (p := ⟨w1.heap.size, 1, none⟩) hlt2).trans u1
  have HB4 := Lib.hid (HB3.out.trans (hb.mono HB3.out.size))
  clear hb u0 u1 hE
  by_cases g1 : (1000000 : Int) < t + N + 1
  case pos =>
    by_cases g2 : (1000000 : Int) ≤ t
    case pos =>
      go_wp2_with fail
      go_ret
      exact ⟨rfl, HB4.out⟩
    case neg =>
      have E : leftN p s a (t + 1) = N - 1 := by
        unfold leftN
        have hi : inB (t + 1) 0 1000000 = true := by rw [inB_iff]; omega
        simp only [H1.out, H2.out, hi, Bool.true_and, decide_eq_true_eq]
        split <;> omega
      have HE := Lib.hid E
      clear E
      go_wp2_with fail
      refine (TimeLeft_any p s a (t + 1) _).mono ?_
      rw [HE.out]
      rintro e w5 ⟨rfl, hb⟩
      have HB5 := Lib.hid (HB4.out.trans (hb.mono HB4.out.size))
      clear hb
      go_wp2_with fail
      go_ret
      exact ⟨rfl, HB5.out⟩
  case neg =>
    have E : freshB p s a (a + p + 1) = false := by
      unfold freshB
      have : decide (a + p + 1 ≤ a + p) = false := decide_eq_false (by omega)
      rw [this]; simp
    have HE := Lib.hid E
    clear E
    go_wp2_with fail
    refine (Fresh_any p s a (a + p + 1) _).mono ?_
    rw [HE.out]
    rintro e w5 ⟨rfl, hb⟩
    have hlt5 : w1.heap.size < w5.heap.size := by have := hb.size; omega
    have x0 := (hb.cell (p := ⟨w1.heap.size, 0, none⟩) hlt4).trans v0
    have x1 := (hb.cell (p := ⟨w1.heap.size, 1, none⟩) hlt4).trans v1
    have HB5 := Lib.hid (HB4.out.trans (hb.mono HB4.out.size))
    clear hb v0 v1
    have g2 : ¬ (1000000 : Int) ≤ t := by omega
    have E : leftN p s a (t + 1) = N - 1 := by
      unfold leftN
      have hi : inB (t + 1) 0 1000000 = true := by rw [inB_iff]; omega
      simp only [H1.out, H2.out, hi, Bool.true_and, decide_eq_true_eq]
      split <;> omega
    have HE2 := Lib.hid E
    clear E
    go_wp2_with fail
    refine (TimeLeft_any p s a (t + 1) _).mono ?_
    rw [HE2.out]
    rintro e w6 ⟨rfl, hb⟩
    have HB6 := Lib.hid (HB5.out.trans (hb.mono HB5.out.size))
    clear hb
    go_wp2_with fail
    go_ret
    exact ⟨rfl, HB6.out⟩

set_option maxRecDepth 100000 in
theorem FnTrust_lifted (os : Os) (started : os.Started) (H : Type) (enc : TypeId × Value → H) :
    ReturnsInHanded {} Try.checked os 4 .any (Rows.fnTrustSpec.pre6 enc Try.prog Try.f4 Rows.fnTrustRow.domain false) (Rows.fnTrustSpec.post enc Try.prog Try.f4 false true false false) := by
  refine returnsInHanded_of_change (C := Try.checked) own started (by kernel_rfl) Try.func4
    (ChangeSpec.witness6 (enc := enc) (C := Try.checked) false ⟨#[], #[.slice none 0 0], []⟩ 8 (by kernel_rfl) (by kernel_rfl) (by kernel_rfl) (by kernel_rfl)) ?_
  intro W base args ds gs before hval0 hW hcnd _
  have hval : ∀ (j : Nat) t v, Try.f4.params[j]? = some t → args[j]? = some v → Value.okWide Try.prog W .any base t v := hval0
  have hW' := hW
  obtain ⟨p, q, hA0, hV, rfl, hfz, hnd⟩ := hW
  have hA : DataW.TrodAll enc Try.prog W 0 (fun _ => true) true Try.f4.params.toList args.toList ds p := hA0
  rw [Try.params4] at hA hval
  obtain ⟨v0, vs0, d0, ds0, p0, q0, hargs, rfl, rfl, h0, r0⟩ := trodAll_cons hA
  obtain ⟨rfl, rfl, rfl⟩ := trodAll_nil r0
  obtain rfl : args = #[v0] := by cases args; simp_all
  obtain ⟨A, n, c, rfl, l, hl⟩ := open_code (hval 0 34 v0 rfl rfl) h0
  refine (FnTrust_walk A n c l W hl).mono fun e W' ⟨he, hb⟩ => ?_
  subst he
  refine ⟨_, rfl, law_post (f := Try.f4) (tb := 4) rfl Try.underlying4 rfl (by kernel_rfl) (fun gs hg => by subst hg; rfl) (fun gs hg => by subst hg; rfl) (fun gs hg => by subst hg; rfl) hW' hb⟩

theorem FnTrust_holds : Rows.FnTrustSaid :=
  OpenClaim.holds_of_wide 4 Try.f4 rfl rfl rfl rfl rfl rfl rfl ⟨rfl, rfl, rfl, rfl, rfl⟩ rfl rfl rfl rfl rfl (by kernel_rfl) Try.func4 (by kernel_rfl)
    (of_decide_eq_true (by kernel_rfl)) (by unfold Func.isWrapper; first | (rw [if_pos (by decide +kernel)]; kernel_rfl) | (rw [if_neg (by decide +kernel)]; exact ⟨rfl, rfl⟩))
    (fun os started H enc _ => FnTrust_lifted os started H enc)
#print axioms FnTrust_holds
end Go.Proofs.Ytpfppkjikkihfaa
