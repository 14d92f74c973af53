/- The program's TableOk returns what the reference's returns, for all arguments. No conditions. -/
import Derived.Test.YtpfppkjikkihfaaH
import Derived.Test.YtpfppkjikkihfaaE
import Derived.Test.YtpfppkjikkihfaaL
import Derived.Deep.Slices
import Derived.Deep.RegionWith
namespace Go.Proofs.Ytpfppkjikkihfaa
open Go.ChangeShapes Go.WideShapes Go.ChangeAt Go.RowKit Go.Joins

set_option maxHeartbeats 800000 in
theorem ExactTableOk_walk (A : Option Addr) (n c : Nat) (turn : Int) (l : List PeerD) (w : World) (hl : RdL peerC 4 w w.heap.size A n c l) :
    Calls Try.prog 7 #[.agg #[.slice A n c, .int .i64 turn]] w fun e w' => e = .returned (.bool true) ∧ Below w.heap.size w w' := by
  have hn := hl.le
  have HL := Lib.hid hl
  clear hl
  by_cases h6 : (1048576 : Int) < n
  · go_enter Try.func7, Try.ntmps7
    go_wp2_with (go_at_call 28; (with_reducible refine (szTable_any _ _ _ _ _ _ hn (by decide) (by decide)).mono ?_); rw [if_pos h6]; rintro e w1 ⟨rfl, hb⟩; obtain ⟨hc, hf, hz⟩ := bcell hb; have hy := nlt (by simp at hz; omega : w.heap.size + 1 ≤ w1.heap.size))
    go_ret
    exact ⟨rfl, (by repeat (first | exact Below.refl _ _ | assumption | refine Below.drew ?_ | refine belN ?_ _ | refine Below.alloc ?_ (by first | exact Nat.le_refl _ | (simp; done) | (simp; omega) | omega) _ | refine Below.setCell ?_ (by first | exact Nat.le_refl _ | (simp; done) | (simp; omega) | omega) _ | refine Below.trans ?_ (Below.mono (by assumption) (by first | exact Nat.le_refl _ | (simp; done) | (simp; omega) | omega))))⟩
  go_enter Try.func7, Try.ntmps7
  go_wp2_with (go_at_call 28; (with_reducible refine (szTable_any _ _ _ _ _ _ hn (by decide) (by decide)).mono ?_); rw [if_neg h6]; rintro e w1 ⟨rfl, hb⟩; obtain ⟨hc, hf, hz⟩ := bcell hb; have hy := nlt (by simp at hz; omega : w.heap.size + 1 ≤ w1.heap.size))
  have B1 : Hid (Below w.heap.size w w1) := (by repeat (first | exact Below.refl _ _ | assumption | refine Below.drew ?_ | refine belN ?_ _ | refine Below.alloc ?_ (by first | exact Nat.le_refl _ | (simp; done) | (simp; omega) | omega) _ | refine Below.setCell ?_ (by first | exact Nat.le_refl _ | (simp; done) | (simp; omega) | omega) _ | refine Below.trans ?_ (Below.mono (by assumption) (by first | exact Nat.le_refl _ | (simp; done) | (simp; omega) | omega))))
  have R1 := Lib.hid ((HL.out.below B1.out (Nat.le_refl _)).more B1.out.size)
  refine (toTable_any A n c turn l _ R1.out (by omega)).mono ?_
  rintro e w2 ⟨A2, c2, rfl, hown, hb⟩
  have B2 := Lib.hid (B1.out.trans (hb.mono B1.out.size))
  have R2 := Lib.hid (RdL.of_own HL.out.1 hown)
  clear hown
  obtain ⟨hc, hf, hz⟩ := bcell hb
  have hy := nlt (by omega : w.heap.size + 1 ≤ w2.heap.size)
  go_wp2_with fail
  refine (sTableOk_any A2 n c2 turn l _ R2.out).mono ?_
  rintro e w3 ⟨rfl, hb⟩
  have B3 := Lib.hid (B2.out.trans (hb.mono B2.out.size))
  obtain ⟨hc, hf, hz⟩ := bcell hb
  have hy := nlt (by omega : w.heap.size + 1 ≤ w3.heap.size)
  go_wp2_with fail
  refine (toTable_any A n c turn l _ ((HL.out.below B3.out (Nat.le_refl _)).more B3.out.size) (by omega)).mono ?_
  rintro e w4 ⟨A4, c4, rfl, hown, hb⟩
  have B4 := Lib.hid (B3.out.trans (hb.mono B3.out.size))
  have R4 := Lib.hid (RdL.of_own HL.out.1 hown)
  clear hown
  obtain ⟨hc, hf, hz⟩ := bcell hb
  have hy := nlt (by omega : w.heap.size + 1 ≤ w4.heap.size)
  go_wp2_with fail
  refine (TableOk_any A4 n c4 turn l _ ((R4.out.alloc (Nat.le_refl _) _).more (by simp))).mono ?_
  rintro e w5 ⟨rfl, hb⟩
  have B5 := Lib.hid (((B4.out.alloc B4.out.size _).trans (hb.mono (by simp; have := B4.out.size; omega))))
  obtain ⟨hc, hf, hz⟩ := bcell hb
  have hz' : w4.heap.size + 1 ≤ w5.heap.size := by simpa using hz
  have hy := nlt (by omega : w.heap.size + 1 ≤ w5.heap.size)
  have hy5 : w4.heap.size < w5.heap.size := by omega
  have x0 : w5.cell? ⟨w4.heap.size, 0, none⟩ = some (.slice A4 n c4) := by rw [hc _ _ (by simp)]; simp
  have x1 : w5.cell? ⟨w4.heap.size, 1, none⟩ = some (.int .i64 turn) := by rw [hc _ _ (by simp)]; simp
  have v0 : w5.cell? ⟨w.heap.size, 0, none⟩ = some (.slice A n c) := by go_simp
  have v1 : w5.cell? ⟨w.heap.size, 1, none⟩ = some (.int .i64 turn) := by go_simp
  have HC : Hid (∀ b, b < w4.heap.size → ∀ o, w5.cell? ⟨b, o, none⟩ = w4.cell? ⟨b, o, none⟩) := by
    intro b hb' o; rw [hc b o (by simp; omega)]; exact World.cell?_alloc_lt w4 _ _ (by exact hb')
  clear hc hf hz
  go_wp2_with fail
  go_region_with (first
    | (go_at_call 30; (refine (toTable_any A n c turn l _ (by exact ((HL.out.below B5.out (Nat.le_refl _)).more B5.out.size)) (by omega)).mono ?_); rintro e w6 ⟨A6, c6, rfl, hown, hb6⟩; have B6 := Lib.hid hb6; have R6 := Lib.hid (RdL.of_own HL.out.1 hown); clear hown; have y0 : w6.cell? ⟨w4.heap.size, 0, none⟩ = some (.slice A4 n c4) := (by rw [hb6.cell (p := ⟨w4.heap.size, 0, none⟩) hy5]; exact x0); have y1 : w6.cell? ⟨w4.heap.size, 1, none⟩ = some (.int .i64 turn) := (by rw [hb6.cell (p := ⟨w4.heap.size, 1, none⟩) hy5]; exact x1); clear hb6)
    | (go_at_call 32; (refine (eqTable_same A4 n c4 _ _ turn l _ (by exact ((R4.out.keep (fun b o hlt => by rw [B6.out.cell (p := ⟨b, o, none⟩) (by show b < w5.heap.size; omega)]; exact HC.out b hlt o)).more (by have h6 : w5.heap.size ≤ w6.heap.size := B6.out.size; omega))) (by exact R6.out)).mono ?_); rintro e w7 ⟨rfl, hb7⟩))
  all_goals
    go_wp2
    go_ret
    exact ⟨rfl, (B5.out.drew.trans (B6.out.mono B5.out.size)).trans (hb7.mono (Nat.le_trans B5.out.size B6.out.size))⟩

set_option maxRecDepth 100000 in
theorem peer_el {H : Type} {enc : TypeId × Value → H} {w : World} {n : Nat} {cs : List Value} {y : DataW H × List MemPlace} (h : DataW.trod enc Try.prog w 0 (fun _ => true) true n 95 cs = some y) : ∃ x, cs = peerC x := by
  obtain ⟨hlen, m, hf⟩ := trod_fields Try.underlying95 h
  obtain ⟨y0, h0⟩ := hf 0 _ rfl
  obtain ⟨y1, h1⟩ := hf 1 _ rfl
  obtain ⟨y2, h2⟩ := hf 2 _ rfl
  obtain ⟨y3, h3⟩ := hf 3 _ rfl
  match cs, hlen.trans (by kernel_rfl : Try.prog.cellsOf 95 = 4) with
  | [c0, c1, c2, c3], _ =>
    obtain ⟨a, rfl, _, _⟩ := field_int Try.underlying3 h0
    obtain ⟨b, rfl⟩ := field_bool Try.underlying4 h1
    obtain ⟨c, rfl, _, _⟩ := field_int Try.underlying3 h2
    obtain ⟨d, rfl, _, _⟩ := field_int Try.underlying3 h3
    exact ⟨⟨a, b, c, d⟩, rfl⟩

set_option maxRecDepth 100000 in
theorem ExactTableOk_lifted (os : Os) (started : os.Started) (H : Type) (enc : TypeId × Value → H) :
    ReturnsInHanded {} Try.checked os 7 .any (Rows.fnExactTableOkSpec.pre6 enc Try.prog Try.f7 Rows.fnExactTableOkRow.domain false) (Rows.fnExactTableOkSpec.post enc Try.prog Try.f7 false true false false) := by
  refine returnsInHanded_of_change (C := Try.checked) own started (by kernel_rfl) Try.func7
    (ChangeSpec.witness6 (enc := enc) (C := Try.checked) false ⟨#[], #[.agg #[.slice none 0 0, .int .i64 0]], []⟩ 8 (by kernel_rfl) (by kernel_rfl) (by kernel_rfl) (by kernel_rfl)) ?_
  intro W base args ds gs before hval0 hW hcnd _
  have hval : ∀ (j : Nat) t v, Try.f7.params[j]? = some t → args[j]? = some v → Value.okWide Try.prog W .any base t v := hval0
  have hW' := hW
  obtain ⟨p, q, hA0, hV, rfl, hfz, hnd⟩ := hW
  have hA : DataW.TrodAll enc Try.prog W 0 (fun _ => true) true Try.f7.params.toList args.toList ds p := hA0
  rw [Try.params7] at hA hval
  obtain ⟨v0, vs0, d0, ds0, p0, q0, hargs, rfl, rfl, h0, r0⟩ := trodAll_cons hA
  obtain ⟨rfl, rfl, rfl⟩ := trodAll_nil r0
  obtain rfl : args = #[v0] := by cases args; simp_all
  obtain ⟨c0, c1, y0, y1, m, rfl, rfl, rfl, hy0, hy1⟩ := open_agg2 Try.underlying50 (by kernel_rfl) (by kernel_rfl) (hval 0 50 v0 rfl rfl) h0
  obtain ⟨b, rfl, _, _⟩ := field_int Try.underlying3 hy1
  obtain ⟨A, n, c, rfl, l, hl⟩ : ∃ A n c, c0 = .slice A n c ∧ ∃ l, RdL peerC 4 W W.heap.size A n c l := by
    exact open_list Try.underlying48 (by kernel_rfl) (by decide) peerC_len (fun cs y n h => peer_el h) hy0
  refine (ExactTableOk_walk A n c b l W hl).mono fun e W' ⟨he, hb⟩ => ?_
  subst he
  refine ⟨_, rfl, law_post (f := Try.f7) (tb := 4) rfl Try.underlying4 rfl (by kernel_rfl) (fun gs hg => by subst hg; rfl) (fun gs hg => by subst hg; rfl) (fun gs hg => by subst hg; rfl) hW' hb⟩

theorem ExactTableOk_holds : Rows.FnExactTableOkSaid :=
  OpenClaim.holds_of_wide 7 Try.f7 rfl rfl rfl rfl rfl rfl rfl ⟨rfl, rfl, rfl, rfl, rfl⟩ rfl rfl rfl rfl rfl (by kernel_rfl) Try.func7 (by kernel_rfl)
    (of_decide_eq_true (by kernel_rfl)) (by unfold Func.isWrapper; first | (rw [if_pos (by decide +kernel)]; kernel_rfl) | (rw [if_neg (by decide +kernel)]; exact ⟨rfl, rfl⟩))
    (fun os started H enc _ => ExactTableOk_lifted os started H enc)
#print axioms ExactTableOk_holds
end Go.Proofs.Ytpfppkjikkihfaa
