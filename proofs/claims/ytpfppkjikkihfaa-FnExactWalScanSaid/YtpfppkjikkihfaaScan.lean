/- l6Vars, l6Take; the program's scan: num, cut, text. -/
import Derived.Test.YtpfppkjikkihfaaWalVar2
import Derived.Test.YtpfppkjikkihfaaChg
import Derived.Deep.DeepMust
import Derived.WalkKit
import Derived.WalkSpells
import Derived.WalkLawsBesides
import Derived.Lib.Hide
namespace Go.Proofs.Ytpfppkjikkihfaa
open Go.RowKit

theorem infoInt' : (Try.prog.info? 3).map (fun i => (i.zero, i.size, i.bytes)) = some (some (.int .i64 0), 1, 8) := by kernel_rfl
theorem extract_drop (s : ByteArray) (a : Nat) : (s.extract a s.size).data.toList = s.data.toList.drop a := by
  have := extract_list s a s.size
  rw [ByteArray.toList_eq] at this
  rw [this, List.take_of_length_le (by rw [List.length_drop]; simp)]
theorem rvL_le (l : List UInt8) : (rvL l).2 ≤ l.length := by
  unfold rvL
  split
  · rename_i i hi
    have h1 : i < l.length := by
      rw [List.findIdx?_eq_some_iff_getElem] at hi
      obtain ⟨h, _⟩ := hi
      rw [List.length_take] at h; omega
    split
    · exact h1
    · exact Nat.zero_le _
  · exact Nat.zero_le _
theorem rvL_bd (l : List UInt8) : (rvL l).1 < 562949953421312 ∧ (rvL l).2 ≤ 7 := by
  unfold rvL
  split
  · rename_i i hi
    have h1 : i < 7 := by
      rw [List.findIdx?_eq_some_iff_getElem] at hi
      obtain ⟨h, _⟩ := hi
      rw [List.length_take] at h; omega
    split
    · refine ⟨?_, by show i + 1 ≤ 7; omega⟩
      show val7 _ < _
      have h2 := val7_lt (l.take (i + 1))
      have h3 : (128 : Nat) ^ (l.take (i + 1)).length ≤ 128 ^ 7 := Nat.pow_le_pow_right (by decide) (by rw [List.length_take]; omega)
      have h4 : (128 : Nat) ^ 7 = 562949953421312 := by decide
      omega
    · exact ⟨by decide, by decide⟩
  · exact ⟨by decide, by decide⟩
/-- a number that stands at a place, and how many bytes it takes -/
def varAt (s : ByteArray) (a : Nat) : Option (Nat × Nat) := if s.size < a then none else if (rvL (s.data.toList.drop a)).2 = 0 then none else some (rvL (s.data.toList.drop a))

set_option maxRecDepth 100000 in
set_option maxHeartbeats 1000000 in
theorem l6Vars1_any (s : ByteArray) (a : Nat) (w : World) (hs : s.size ≤ 2097152) (ha : a ≤ 4194304) :
    Calls Try.prog 80 #[.string s, .int .i64 a, .int .i64 1] w fun e w' => Below w.heap.size w w' ∧
      ((varAt s a = none ∧ ∃ v, e = .returned (.tuple #[v, .int .i64 (-1)])) ∨
        ∃ x k g c, varAt s a = some (x, k) ∧ e = .returned (.tuple #[.slice (some ⟨g, 0, none⟩) 1 c, .int .i64 ((a + k : Nat) : Int)]) ∧ g < w'.heap.size ∧ w'.cell? ⟨g, 0, none⟩ = some (.int .i64 (x : Nat))) := by
  obtain ⟨i0, hi, hz0, hz1, hz2⟩ := info_parts infoInt'
  go_enter Try.func80, Try.ntmps80
  go_wp2_with fail
  go_loopw [1, 8, 9] (fun t o i wr => Below w.heap.size w wr ∧ ((i = .int .i64 0 ∧ t = .int .i64 a ∧ wr.ownsRow w.heap.size 3 1 o 0 []) ∨
      (i = .int .i64 1 ∧ ∃ x k, varAt s a = some (x, k) ∧ t = .int .i64 ((a + k : Nat) : Int) ∧ wr.ownsRow w.heap.size 3 1 o 1 [.int .i64 (x : Nat)]))) (fun _ _ i _ => (2 - intOf i).toNat)
  case atStart => exact ⟨(by repeat (first | exact Below.refl _ _ | assumption | refine Below.drew ?_ | refine belN ?_ _ | refine Below.alloc ?_ (by first | exact Nat.le_refl _ | (simp; done) | (simp; omega) | omega) _ | refine Below.setCell ?_ (by first | exact Nat.le_refl _ | (simp; done) | (simp; omega) | omega) _ | refine Below.trans ?_ (Below.mono (by assumption) (by first | exact Nat.le_refl _ | (simp; done) | (simp; omega) | omega)))), .inl ⟨rfl, rfl, World.ownsRow_lit w #[] 0 (Nat.le_refl _) (by decide) rfl⟩⟩
  case round =>
    obtain ⟨hb, ⟨rfl, rfl, hown⟩ | ⟨rfl, x, k, hv, rfl, hown⟩⟩ := hrel
    · have HO := Lib.hid hown
      have hz := hb.size
      clear hown
      by_cases hsa : s.size < a
      · have HV : Hid (varAt s a = none) := by show _ = _; unfold varAt; rw [if_pos hsa]
        have hsb : ((s.size : Nat) : Int) < a := by omega
        go_wp2_with fail
        go_ret2
        exact ⟨hb, .inl ⟨HV.out, _, rfl⟩⟩
      · have hsb : ¬ ((s.size : Nat) : Int) < a := by omega
        have hsc : (a : Int) ≤ s.size := by omega
        have hsd : a ≤ s.size := by omega
        have HX := Lib.hid (extract_drop s a)
        have hbd := rvL_bd (s.data.toList.drop a)
        go_wp2_with fail
        refine (sReadVar_any _ _ (by rw [ByteArray.size_extract]; unfold maxLen; omega)).mono ?_
        rw [HX.out]
        generalize hr : rvL (s.data.toList.drop a) = r at *
        have HR := Lib.hid hr
        clear hr
        obtain ⟨x, k⟩ := r
        rintro e w1 ⟨rfl, hb2⟩
        have HB1 := Lib.hid (hb.trans (hb2.mono hz))
        have HO1 := Lib.hid (own_keep HO.out hb2 (Nat.le_refl _))
        have hz1' : w.heap.size ≤ w1.heap.size := HB1.out.size
        simp only at hbd
        clear hb2
        by_cases hk : k = 0
        · subst hk
          have HV : Hid (varAt s a = none) := by show _ = _; unfold varAt; rw [if_neg hsa, HR.out]; rfl
          go_wp2_with fail
          go_ret2
          exact ⟨HB1.out, .inl ⟨HV.out, _, rfl⟩⟩
        · have HV : Hid (varAt s a = some (x, k)) := by show _ = _; unfold varAt; rw [if_neg hsa, HR.out]; exact if_neg hk
          have hki : ((k : Int) == 0) = false := by simp; omega
          go_wp2_with (at_builtin; go_must (refine wpList_append_own _ rfl _ _ 66 rfl w.heap.size 3 i0 (.int .i64 0) 1 8 Try.underlying66 hi hz0 hz1 hz2 rfl (by decide) _ _ _ rfl (HO1.out.alloc _) ⟨_, 0, none⟩ 1 1 [.int .i64 (x : Nat)] rfl rfl (one_new _ _ _) (one_cell _ rfl) (by unfold maxLen; omega) (by omega) (by simp; omega) ?_))
          intro v' w2 hown' hgrow _
          have HB2 := Lib.hid ((HB1.out.alloc hz1' _).grown hgrow (by simp; omega) (fun g hg => (HO1.out.lt g hg).1))
          have HO2 := Lib.hid hown'
          clear hown' hgrow
          go_wp2
          go_roundw
          case rel => exact ⟨HB2.out, .inr ⟨by go_num, x, k, HV.out, by go_num, by simpa using HO2.out⟩⟩
          case measure => simp [intOf]
    · obtain ⟨g, c, rfl, _, hg⟩ := hown.form (by decide)
      have hc := hown.cellAt 0 (by decide)
      go_wp2
      go_ret2
      exact ⟨hb, .inr ⟨x, k, g, c, hv, rfl, hg, hc⟩⟩
end Go.Proofs.Ytpfppkjikkihfaa
