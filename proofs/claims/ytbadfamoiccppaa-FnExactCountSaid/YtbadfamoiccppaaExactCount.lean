/- The program's Count returns what the reference's returns, for all arguments. No conditions. -/
import Derived.Test.YtbadfamoiccppaaNodeFam
import Derived.Test.YtbadfamoiccppaaNodeOk2
import Derived.Test.YtbadfamoiccppaaElNMsg
import Derived.Test.YtbadfamoiccppaaCount2
import Derived.Test.YtbadfamoiccppaaL
import Derived.Deep.RegionWith
namespace Go.Proofs.Ytbadfamoiccppaa
open Go.ChangeShapes Go.WideShapes Go.ChangeAt Go.RowKit Go.Joins

set_option maxHeartbeats 2000000 in
theorem ExactCount_walk (s : NodeS) (A : Option Addr) (n c : Nat) (l : List NMsgD)  (k : Int) (r : Int) (v : Int) (w : World) (hl : RdL msgC 5 w w.heap.size A n c l) :
    Calls Try.prog 5 #[.agg #[.int .i64 s.me, .int .i64 s.round, .int .i64 s.step, .int .i64 s.lv, .int .i64 s.lr, .int .i64 s.vv, .int .i64 s.vr, .int .i64 s.polka, .int .i64 s.dec, .slice A n c], .int .i64 k, .int .i64 r, .int .i64 v] w fun e w' => e = .returned (.bool true) ∧ Below w.heap.size w w' := by
  have hn := hl.le
  have HL := Lib.hid hl
  clear hl
  by_cases h6 : (1048576 : Int) < n
  · go_enter Try.func5, Try.ntmps5
    go_wp2_with (go_at_call 17; (refine (szNode_any _ _ _ _ _ _ hn (by decide) (by decide)).mono ?_); rw [if_pos h6]; rintro e w1 ⟨rfl, hb⟩; obtain ⟨hc, hf, hz⟩ := bcell hb; have hy := nlt (by simp at hz; omega : w.heap.size + 1 ≤ w1.heap.size))
    go_ret
    exact ⟨rfl, (by repeat (first | exact Below.refl _ _ | assumption | refine Below.drew ?_ | refine belN ?_ _ | refine Below.alloc ?_ (by first | exact Nat.le_refl _ | (simp; done) | (simp; omega) | omega) _ | refine Below.setCell ?_ (by first | exact Nat.le_refl _ | (simp; done) | (simp; omega) | omega) _ | refine Below.trans ?_ (Below.mono (by assumption) (by first | exact Nat.le_refl _ | (simp; done) | (simp; omega) | omega))))⟩
  go_enter Try.func5, Try.ntmps5
  go_wp2_with (go_at_call 17; (refine (szNode_any _ _ _ _ _ _ hn (by decide) (by decide)).mono ?_); rw [if_neg (show ¬ ((1048576 : Int) < n) by omega)]; rintro e w1 ⟨rfl, hb⟩; obtain ⟨hc, hf, hz⟩ := bcell hb; have hy := nlt (by simp at hz; omega : w.heap.size + 1 ≤ w1.heap.size))
  have B1 : Hid (Below w.heap.size w w1) := (by repeat (first | exact Below.refl _ _ | assumption | refine Below.drew ?_ | refine belN ?_ _ | refine Below.alloc ?_ (by first | exact Nat.le_refl _ | (simp; done) | (simp; omega) | omega) _ | refine Below.setCell ?_ (by first | exact Nat.le_refl _ | (simp; done) | (simp; omega) | omega) _ | refine Below.trans ?_ (Below.mono (by assumption) (by first | exact Nat.le_refl _ | (simp; done) | (simp; omega) | omega))))
  have R1 := Lib.hid ((HL.out.below B1.out (Nat.le_refl _)).more B1.out.size)
  refine (toNode_any s A n c l _ R1.out (by omega)).mono ?_
  rintro e w2 ⟨A2, c2, rfl, hown, hb⟩
  have B2 := Lib.hid (B1.out.trans (hb.mono B1.out.size))
  have R2 := Lib.hid (RdL.of_own HL.out.1 hown)
  clear hown
  obtain ⟨hc, hf, hz⟩ := bcell hb
  have hy := nlt (by omega : w.heap.size + 1 ≤ w2.heap.size)
  go_wp2_with fail
  refine (sCount_any s A2 n c2 k r v l _ R2.out).mono ?_
  rintro e w3 ⟨rfl, hb⟩
  have B3 := Lib.hid (B2.out.trans (hb.mono B2.out.size))
  obtain ⟨hc, hf, hz⟩ := bcell hb
  have hy := nlt (by omega : w.heap.size + 1 ≤ w3.heap.size)
  go_wp2_with fail
  refine (toNode_any s A n c l _ ((HL.out.below B3.out (Nat.le_refl _)).more B3.out.size) (by omega)).mono ?_
  rintro e w4 ⟨A4, c4, rfl, hown, hb⟩
  have B4 := Lib.hid (B3.out.trans (hb.mono B3.out.size))
  have R4 := Lib.hid (RdL.of_own HL.out.1 hown)
  clear hown
  obtain ⟨hc, hf, hz⟩ := bcell hb
  have hy := nlt (by omega : w.heap.size + 1 ≤ w4.heap.size)
  go_wp2_with fail
  refine (Count_any s A4 n c4 k r v l _ ((R4.out.alloc (Nat.le_refl _) _).more (by simp))).mono ?_
  rintro e w5 ⟨rfl, hb⟩
  have B5 := Lib.hid (((B4.out.alloc B4.out.size _).trans (hb.mono (by simp; have := B4.out.size; omega))))
  obtain ⟨hc, hf, hz⟩ := bcell hb
  have hz' : w4.heap.size + 1 ≤ w5.heap.size := by simpa using hz
  have hy := nlt (by omega : w.heap.size + 1 ≤ w5.heap.size)
  have hy5 : w4.heap.size < w5.heap.size := by omega
  have x0 : w5.cell? ⟨w4.heap.size, 0, none⟩ = some (.int .i64 s.me) := by rw [hc _ _ (by simp)]; simp
  have x1 : w5.cell? ⟨w4.heap.size, 1, none⟩ = some (.int .i64 s.round) := by rw [hc _ _ (by simp)]; simp
  have x2 : w5.cell? ⟨w4.heap.size, 2, none⟩ = some (.int .i64 s.step) := by rw [hc _ _ (by simp)]; simp
  have x3 : w5.cell? ⟨w4.heap.size, 3, none⟩ = some (.int .i64 s.lv) := by rw [hc _ _ (by simp)]; simp
  have x4 : w5.cell? ⟨w4.heap.size, 4, none⟩ = some (.int .i64 s.lr) := by rw [hc _ _ (by simp)]; simp
  have x5 : w5.cell? ⟨w4.heap.size, 5, none⟩ = some (.int .i64 s.vv) := by rw [hc _ _ (by simp)]; simp
  have x6 : w5.cell? ⟨w4.heap.size, 6, none⟩ = some (.int .i64 s.vr) := by rw [hc _ _ (by simp)]; simp
  have x7 : w5.cell? ⟨w4.heap.size, 7, none⟩ = some (.int .i64 s.polka) := by rw [hc _ _ (by simp)]; simp
  have x8 : w5.cell? ⟨w4.heap.size, 8, none⟩ = some (.int .i64 s.dec) := by rw [hc _ _ (by simp)]; simp
  have x9 : w5.cell? ⟨w4.heap.size, 9, none⟩ = some (.slice A4 n c4) := by rw [hc _ _ (by simp)]; simp
  have v0 : w5.cell? ⟨w.heap.size, 0, none⟩ = some (.int .i64 s.me) := by go_simp
  have v1 : w5.cell? ⟨w.heap.size, 1, none⟩ = some (.int .i64 s.round) := by go_simp
  have v2 : w5.cell? ⟨w.heap.size, 2, none⟩ = some (.int .i64 s.step) := by go_simp
  have v3 : w5.cell? ⟨w.heap.size, 3, none⟩ = some (.int .i64 s.lv) := by go_simp
  have v4 : w5.cell? ⟨w.heap.size, 4, none⟩ = some (.int .i64 s.lr) := by go_simp
  have v5 : w5.cell? ⟨w.heap.size, 5, none⟩ = some (.int .i64 s.vv) := by go_simp
  have v6 : w5.cell? ⟨w.heap.size, 6, none⟩ = some (.int .i64 s.vr) := by go_simp
  have v7 : w5.cell? ⟨w.heap.size, 7, none⟩ = some (.int .i64 s.polka) := by go_simp
  have v8 : w5.cell? ⟨w.heap.size, 8, none⟩ = some (.int .i64 s.dec) := by go_simp
  have v9 : w5.cell? ⟨w.heap.size, 9, none⟩ = some (.slice A n c) := by go_simp
  have HC : Hid (∀ b, b < w4.heap.size → ∀ o, w5.cell? ⟨b, o, none⟩ = w4.cell? ⟨b, o, none⟩) := by
    intro b hb' o; rw [hc b o (by simp; omega)]; exact World.cell?_alloc_lt w4 _ _ (by exact hb')
  clear hc hf hz
  go_wp2_with fail
  go_region_with (first
    | (go_at_call 19; (refine (toNode_any s A n c l _ (by exact ((HL.out.below B5.out (Nat.le_refl _)).more B5.out.size)) (by omega)).mono ?_); rintro e w6 ⟨A6, c6, rfl, hown, hb6⟩; have B6 := Lib.hid hb6; have R6 := Lib.hid (RdL.of_own HL.out.1 hown); clear hown; have y0 : w6.cell? ⟨w4.heap.size, 0, none⟩ = some (.int .i64 s.me) := (by rw [hb6.cell (p := ⟨w4.heap.size, 0, none⟩) hy5]; exact x0); have y1 : w6.cell? ⟨w4.heap.size, 1, none⟩ = some (.int .i64 s.round) := (by rw [hb6.cell (p := ⟨w4.heap.size, 1, none⟩) hy5]; exact x1); have y2 : w6.cell? ⟨w4.heap.size, 2, none⟩ = some (.int .i64 s.step) := (by rw [hb6.cell (p := ⟨w4.heap.size, 2, none⟩) hy5]; exact x2); have y3 : w6.cell? ⟨w4.heap.size, 3, none⟩ = some (.int .i64 s.lv) := (by rw [hb6.cell (p := ⟨w4.heap.size, 3, none⟩) hy5]; exact x3); have y4 : w6.cell? ⟨w4.heap.size, 4, none⟩ = some (.int .i64 s.lr) := (by rw [hb6.cell (p := ⟨w4.heap.size, 4, none⟩) hy5]; exact x4); have y5 : w6.cell? ⟨w4.heap.size, 5, none⟩ = some (.int .i64 s.vv) := (by rw [hb6.cell (p := ⟨w4.heap.size, 5, none⟩) hy5]; exact x5); have y6 : w6.cell? ⟨w4.heap.size, 6, none⟩ = some (.int .i64 s.vr) := (by rw [hb6.cell (p := ⟨w4.heap.size, 6, none⟩) hy5]; exact x6); have y7 : w6.cell? ⟨w4.heap.size, 7, none⟩ = some (.int .i64 s.polka) := (by rw [hb6.cell (p := ⟨w4.heap.size, 7, none⟩) hy5]; exact x7); have y8 : w6.cell? ⟨w4.heap.size, 8, none⟩ = some (.int .i64 s.dec) := (by rw [hb6.cell (p := ⟨w4.heap.size, 8, none⟩) hy5]; exact x8); have y9 : w6.cell? ⟨w4.heap.size, 9, none⟩ = some (.slice A4 n c4) := (by rw [hb6.cell (p := ⟨w4.heap.size, 9, none⟩) hy5]; exact x9); clear hb6)
    | (go_at_call 14; (refine (eqNode_same s A4 n c4 _ _ l _ (by exact ((R4.out.keep (fun b o hlt => by rw [B6.out.cell (p := ⟨b, o, none⟩) (by show b < w5.heap.size; omega)]; exact HC.out b hlt o)).more (by have h6 : w5.heap.size ≤ w6.heap.size := B6.out.size; omega))) (by exact R6.out)).mono ?_); rintro e w7 ⟨rfl, hb7⟩))
  all_goals
    go_wp2
    go_ret
    exact ⟨rfl, (B5.out.drew.trans (B6.out.mono B5.out.size)).trans (hb7.mono (Nat.le_trans B5.out.size B6.out.size))⟩

set_option maxRecDepth 100000 in
theorem ExactCount_lifted (os : Os) (started : os.Started) (H : Type) (enc : TypeId × Value → H) :
    ReturnsInHanded {} Try.checked os 5 .any (Rows.fnExactCountSpec.pre6 enc Try.prog Try.f5 Rows.fnExactCountRow.domain false) (Rows.fnExactCountSpec.post enc Try.prog Try.f5 false true false false) := by
  refine returnsInHanded_of_change (C := Try.checked) own started (by kernel_rfl) Try.func5
    (ChangeSpec.witness6 (enc := enc) (C := Try.checked) false ⟨#[], #[.agg #[.int .i64 0, .int .i64 0, .int .i64 0, .int .i64 0, .int .i64 0, .int .i64 0, .int .i64 0, .int .i64 0, .int .i64 0, .slice none 0 0], .int .i64 0, .int .i64 0, .int .i64 0], []⟩ 8 (by kernel_rfl) (by kernel_rfl) (by kernel_rfl) (by kernel_rfl)) ?_
  intro W base args ds gs before hval0 hW hcnd _
  have hval : ∀ (j : Nat) t v, Try.f5.params[j]? = some t → args[j]? = some v → Value.okWide Try.prog W .any base t v := hval0
  have hW' := hW
  obtain ⟨p, q, hA0, hV, rfl, hfz, hnd⟩ := hW
  have hA : DataW.TrodAll enc Try.prog W 0 (fun _ => true) true Try.f5.params.toList args.toList ds p := hA0
  rw [Try.params5] at hA hval
  obtain ⟨v0, vs0, d0, ds0, p0, q0, hargs, rfl, rfl, h0, r0⟩ := trodAll_cons hA
  obtain ⟨v1, vs1, d1, ds1, p1, q1, rfl, rfl, rfl, h1, r1⟩ := trodAll_cons r0
  obtain ⟨v2, vs2, d2, ds2, p2, q2, rfl, rfl, rfl, h2, r2⟩ := trodAll_cons r1
  obtain ⟨v3, vs3, d3, ds3, p3, q3, rfl, rfl, rfl, h3, r3⟩ := trodAll_cons r2
  obtain ⟨rfl, rfl, rfl⟩ := trodAll_nil r3
  obtain rfl : args = #[v0, v1, v2, v3] := by cases args; simp_all
  obtain ⟨cs, rfl, hlen, m, hf⟩ := agg_fields Try.underlying32 (hval 0 32 v0 rfl rfl) h0
  obtain ⟨y0, g0⟩ := hf 0 _ rfl
  obtain ⟨y1, g1⟩ := hf 1 _ rfl
  obtain ⟨y2, g2⟩ := hf 2 _ rfl
  obtain ⟨y3, g3⟩ := hf 3 _ rfl
  obtain ⟨y4, g4⟩ := hf 4 _ rfl
  obtain ⟨y5, g5⟩ := hf 5 _ rfl
  obtain ⟨y6, g6⟩ := hf 6 _ rfl
  obtain ⟨y7, g7⟩ := hf 7 _ rfl
  obtain ⟨y8, g8⟩ := hf 8 _ rfl
  obtain ⟨y9, g9⟩ := hf 9 _ rfl
  obtain ⟨c0, c1, c2, c3, c4, c5, c6, c7, c8, c9, rfl⟩ := list10 (hlen.trans (by kernel_rfl : Try.prog.cellsOf 32 = 10))
  obtain ⟨a0, rfl, _, _⟩ := field_int Try.underlying3 g0
  obtain ⟨a1, rfl, _, _⟩ := field_int Try.underlying3 g1
  obtain ⟨a2, rfl, _, _⟩ := field_int Try.underlying3 g2
  obtain ⟨a3, rfl, _, _⟩ := field_int Try.underlying3 g3
  obtain ⟨a4, rfl, _, _⟩ := field_int Try.underlying3 g4
  obtain ⟨a5, rfl, _, _⟩ := field_int Try.underlying3 g5
  obtain ⟨a6, rfl, _, _⟩ := field_int Try.underlying3 g6
  obtain ⟨a7, rfl, _, _⟩ := field_int Try.underlying3 g7
  obtain ⟨a8, rfl, _, _⟩ := field_int Try.underlying3 g8
  obtain ⟨A, n, c, rfl, l, hl⟩ := open_list Try.underlying30 (by kernel_rfl) (by decide) msgC_len (fun cs y n h => msg_el h) g9
  obtain ⟨k, rfl, rfl, rfl, _⟩ := open_int Try.underlying3 (hval 1 3 v1 rfl rfl) h1
  obtain ⟨r, rfl, rfl, rfl, _⟩ := open_int Try.underlying3 (hval 2 3 v2 rfl rfl) h2
  obtain ⟨v, rfl, rfl, rfl, _⟩ := open_int Try.underlying3 (hval 3 3 v3 rfl rfl) h3

  refine (ExactCount_walk ⟨a0, a1, a2, a3, a4, a5, a6, a7, a8⟩ A n c l k r v W hl).mono fun e W' ⟨he, hb⟩ => ?_
  subst he
  refine ⟨_, rfl, law_post (f := Try.f5) (tb := 4) rfl Try.underlying4 rfl (by kernel_rfl) (fun gs hg => by subst hg; rfl) (fun gs hg => by subst hg; rfl) (fun gs hg => by subst hg; rfl) hW' hb⟩

theorem ExactCount_holds : Rows.FnExactCountSaid :=
  OpenClaim.holds_of_wide 5 Try.f5 rfl rfl rfl rfl rfl rfl rfl ⟨rfl, rfl, rfl, rfl, rfl⟩ rfl rfl rfl rfl rfl (by kernel_rfl) Try.func5 (by kernel_rfl)
    (of_decide_eq_true (by kernel_rfl)) (by unfold Func.isWrapper; first | (rw [if_pos (by decide +kernel)]; kernel_rfl) | (rw [if_neg (by decide +kernel)]; exact ⟨rfl, rfl⟩))
    (fun os started H enc _ => ExactCount_lifted os started H enc)
#print axioms ExactCount_holds
end Go.Proofs.Ytbadfamoiccppaa
