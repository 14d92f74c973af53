/- l6Take; the program's scan: num, cut, text. -/
import Derived.Test.YtpfppkjikkihfaaScan
import Derived.WalkKit
import Derived.WalkSpells
import Derived.WalkLawsBesides
import Derived.Lib.Hide
namespace Go.Proofs.Ytpfppkjikkihfaa
open Go.RowKit

theorem rvL_fit {l : List UInt8} {x k : Nat} (h : rvL l = (x, k)) (hk : k ≠ 0) : varL (x : Int) = l.take k ∧ k ≤ l.length := by
  refine ⟨?_, by have := rvL_le l; rw [h] at this; exact this⟩
  unfold rvL at h
  split at h
  · split at h
    · rename_i h2
      injection h with h3 h4
      subst h3 h4
      exact h2
    · injection h with h3 h4; exact absurd h4.symm hk
  · injection h with h3 h4; exact absurd h4.symm hk
theorem varAt_fit {s : ByteArray} {a x k : Nat} (h : varAt s a = some (x, k)) : a + k ≤ s.size ∧ k ≠ 0 ∧ rvL (s.data.toList.drop a) = (x, k) ∧ x < 562949953421312 ∧ k ≤ 7 := by
  unfold varAt at h
  split at h
  · cases h
  · split at h
    · cases h
    · injection h with h
      rename_i h1 h2
      rw [h] at h2
      have h3 := rvL_le (s.data.toList.drop a)
      have h4 := rvL_bd (s.data.toList.drop a)
      rw [h] at h3 h4
      rw [List.length_drop] at h3
      simp at h3 h4 h2
      exact ⟨by omega, h2, h, h4.1, h4.2⟩
/-- a text behind its length: the text, and where it ends -/
def takeS (s : ByteArray) (a : Nat) : Option (ByteArray × Nat) :=
  match varAt s a with
  | some (x, k) => if s.size < a + k + x then none else some (s.extract (a + k) (a + k + x), a + k + x)
  | none => none
def takeV (r : Option (ByteArray × Nat)) : Value := match r with | some (t, e) => .tuple #[.string t, .int .i64 e] | none => .tuple #[.string ⟨#[]⟩, .int .i64 (-1)]

set_option maxRecDepth 100000 in
set_option maxHeartbeats 1000000 in
theorem l6Take_any (s : ByteArray) (a : Nat) (w : World) (hs : s.size ≤ 2097152) (ha : a ≤ 4194304) :
    Calls Try.prog 64 #[.string s, .int .i64 a] w fun e w' => e = .returned (takeV (takeS s a)) ∧ Below w.heap.size w w' := by
  go_enter Try.func64, Try.ntmps64
  go_wp2_with fail
  refine (l6Vars1_any s a _ hs ha).mono ?_
  rintro e w1 ⟨hb, ⟨hv, v, rfl⟩ | ⟨x, k, g, c, hv, rfl, hg, hc⟩⟩
  · have HE : Hid (takeS s a = none) := by show _ = _; unfold takeS; rw [hv]
    clear hv
    go_wp2_with fail
    go_ret2
    exact ⟨by rw [HE.out]; rfl, hb⟩
  · obtain ⟨f1, f2, f3, f4, f5⟩ := varAt_fit hv
    have HV := Lib.hid hv
    have HB := Lib.hid hb
    clear hv f3 hb
    generalize hq : a + k = q at *
    have HQ := Lib.hid hq
    clear hq
    by_cases hx : s.size < q + x
    · have HE : Hid (takeS s a = none) := by show _ = _; unfold takeS; rw [HV.out]; simp only [HQ.out]; rw [if_pos hx]
      have hxi : ((s.size : Nat) : Int) - q < x := by omega
      go_wp2_with fail
      go_ret2
      exact ⟨by rw [HE.out]; rfl, HB.out⟩
    · have HE : Hid (takeS s a = some (s.extract q (q + x), q + x)) := by show _ = _; unfold takeS; rw [HV.out]; simp only [HQ.out]; rw [if_neg hx]
      have hxi : ¬ ((s.size : Nat) : Int) - q < x := by omega
      have hy1 : (q : Int) ≤ (q : Int) + x := by omega
      have hy2 : (q : Int) + x ≤ s.size := by omega
      have hy3 : q + x ≤ s.size := by omega
      go_wp2_with fail
      refine wp_region_below (by kernel_rfl) (by kernel_rfl) ?_
      repeat (first | go_big_quiet_skip | (go_big_quiet_want; go_big_quiet_op; first | go_big_quiet_on | (apply Exists.intro; refine ⟨fun w1 hC => ?_, ?_⟩; (focus (first | rfl | fail | (simp [(bcell hC).1, hg, hc, hy1, hy2, hy3]; done) | (simp [(bcell hC).1, hg, hc, hy1, hy2, hy3]; rfl))); go_big_quiet_on)))
      refine wpQuiet_nil ?_
      intro w2 hb2
      obtain ⟨hc2, hf2, hz2⟩ := bcell hb2
      go_wp2
      go_ret2
      exact ⟨by rw [HE.out]; rfl, HB.out.trans (hb2.mono HB.out.size)⟩

theorem Chg.one (b o : Nat) (v : Value) (w : World) : Chg b (b + 1) w (w.setCell ⟨b, o, none⟩ v) := Chg.setCell (p := ⟨b, o, none⟩) (Chg.refl b (b + 1) w) (Nat.le_refl _) (Nat.lt_succ_self _) v
def numN (r : ByteArray) (bad : Bool) : Nat := if bad = true then 0 else (rvL r.data.toList).1
def numS (r : ByteArray) (bad : Bool) : ByteArray := if bad = true ∨ (rvL r.data.toList).2 = 0 then r else r.extract (rvL r.data.toList).2 r.size
def numB (r : ByteArray) (bad : Bool) : Bool := bad || ((rvL r.data.toList).2 == 0)
theorem rvL_zero {l : List UInt8} (h : (rvL l).2 = 0) : (rvL l).1 = 0 := by
  revert h
  unfold rvL
  split
  · split
    · intro h; simp at h
    · intro _; rfl
  · intro _; rfl
theorem numS_size (r : ByteArray) (bad : Bool) : (numS r bad).size ≤ r.size := by
  unfold numS; split
  · exact Nat.le_refl _
  · rw [ByteArray.size_extract]; omega

set_option maxRecDepth 100000 in
set_option maxHeartbeats 1000000 in
theorem num_any (b : Nat) (r : ByteArray) (bad : Bool) (w : World) (h0 : w.cell? ⟨b, 0, none⟩ = some (.string r)) (h1 : w.cell? ⟨b, 1, none⟩ = some (.bool bad)) (hf : ∀ o, w.frozen? ⟨b, o, none⟩ = false) (hlt : b < w.heap.size) (hs : r.size ≤ 2097152) :
    Calls Try.prog 84 #[.pointer (some ⟨b, 0, none⟩)] w fun e w' => e = .returned (.int .i64 (numN r bad)) ∧ Chg b (b + 1) w w' ∧ w'.cell? ⟨b, 0, none⟩ = some (.string (numS r bad)) ∧ w'.cell? ⟨b, 1, none⟩ = some (.bool (numB r bad)) ∧ ∀ o, w'.frozen? ⟨b, o, none⟩ = false := by
  have hr1 := rvL_le r.data.toList
  have hz1 := rvL_zero (l := r.data.toList)
  obtain ⟨x, k, hxk⟩ : ∃ x k, rvL r.data.toList = (x, k) := ⟨_, _, rfl⟩
  have HXK := Lib.hid hxk
  rw [hxk] at hr1 hz1
  simp at hr1 hz1
  clear hxk
  go_enter Try.func84, Try.ntmps84
  go_wp2_with fail
  refine (ReadVar_any r _ (by unfold maxLen; omega)).mono ?_
  rw [HXK.out]
  rintro e w1 ⟨rfl, hb⟩
  have e0 := (hb.cell (p := ⟨b, 0, none⟩) hlt).trans h0
  have e1 := (hb.cell (p := ⟨b, 1, none⟩) hlt).trans h1
  have ef : ∀ o, w1.frozen? ⟨b, o, none⟩ = false := fun o => (hb.frozen (p := ⟨b, o, none⟩) hlt).trans (hf o)
  have hlt1 : b < w1.heap.size := by have := hb.size; omega
  have HC := Lib.hid ((Chg.refl b (b + 1) w).below_trans hb)
  clear hb h0 h1 hf
  cases bad
  · by_cases hk : k = 0
    · have E1 : Hid (numN r false = 0) := by show _ = _; unfold numN; rw [HXK.out]; exact hz1 hk
      have E2 : Hid (numS r false = r) := by show _ = _; unfold numS; rw [HXK.out]; exact if_pos (.inr hk)
      have E3 : Hid (numB r false = true) := by show _ = _; unfold numB; rw [HXK.out]; simp [hk]
      subst hk
      clear hz1
      go_wp2_with fail
      go_ret
      rw [E1.out, E2.out, E3.out]
      exact ⟨rfl, HC.out.setCell (Nat.le_refl _) (Nat.lt_succ_self _) _, by simp [go_sem, e0], by simp [go_sem, e1], fun o => by simp [go_sem, ef]⟩
    · have E1 : Hid (numN r false = x) := by show _ = _; unfold numN; rw [HXK.out]; rfl
      have E2 : Hid (numS r false = r.extract k r.size) := by show _ = _; unfold numS; rw [HXK.out]; exact if_neg (by simpa using hk)
      have E3 : Hid (numB r false = false) := by show _ = _; unfold numB; rw [HXK.out]; simpa using hk
      have hki : ((k : Int) == 0) = false := by simp; omega
      clear hz1
      go_wp2_with fail
      go_ret
      rw [E1.out, E2.out, E3.out]
      exact ⟨rfl, HC.out.setCell (Nat.le_refl _) (Nat.lt_succ_self _) _, by simp [go_sem, e0], by simp [go_sem, e1], fun o => by simp [go_sem, ef]⟩
  · have E1 : Hid (numN r true = 0) := rfl
    have E2 : Hid (numS r true = r) := by show _ = _; unfold numS; exact if_pos (.inl rfl)
    have E3 : Hid (numB r true = true) := rfl
    clear hz1
    go_wp2_with fail
    go_ret
    rw [E1.out, E2.out, E3.out]
    exact ⟨rfl, HC.out.setCell (Nat.le_refl _) (Nat.lt_succ_self _) _, by simp [go_sem, e0], by simp [go_sem, e1], fun o => by simp [go_sem, ef]⟩

def cutO (r : ByteArray) (bad : Bool) (n : Nat) : ByteArray := if bad = true ∨ r.size < n then ⟨#[]⟩ else r.extract 0 n
def cutS (r : ByteArray) (bad : Bool) (n : Nat) : ByteArray := if bad = true ∨ r.size < n then r else r.extract n r.size
def cutB (r : ByteArray) (bad : Bool) (n : Nat) : Bool := bad || decide (r.size < n)

set_option maxRecDepth 100000 in
set_option maxHeartbeats 1000000 in
theorem cut_any (b : Nat) (r : ByteArray) (bad : Bool) (n : Nat) (w : World) (h0 : w.cell? ⟨b, 0, none⟩ = some (.string r)) (h1 : w.cell? ⟨b, 1, none⟩ = some (.bool bad)) (hf : ∀ o, w.frozen? ⟨b, o, none⟩ = false) (hlt : b < w.heap.size) (hs : r.size ≤ 2097152) :
    Calls Try.prog 85 #[.pointer (some ⟨b, 0, none⟩), .int .i64 n] w fun e w' => e = .returned (.string (cutO r bad n)) ∧ Chg b (b + 1) w w' ∧ w'.cell? ⟨b, 0, none⟩ = some (.string (cutS r bad n)) ∧ w'.cell? ⟨b, 1, none⟩ = some (.bool (cutB r bad n)) ∧ ∀ o, w'.frozen? ⟨b, o, none⟩ = false := by
  cases bad
  · by_cases hn : r.size < n
    · have E1 : Hid (cutO r false n = ⟨#[]⟩) := by show _ = _; unfold cutO; exact if_pos (.inr hn)
      have E2 : Hid (cutS r false n = r) := by show _ = _; unfold cutS; exact if_pos (.inr hn)
      have E3 : Hid (cutB r false n = true) := by show _ = _; unfold cutB; simp [hn]
      have hi : inB (n : Int) 0 r.size = false := by
        cases hc : inB (n : Int) 0 r.size
        · rfl
        · rw [inB_iff] at hc; omega
      go_enter Try.func85, Try.ntmps85
      go_wp2_with (go_at_call 61; (with_reducible refine (within_any _ _ _ _).mono ?_); rintro e w' ⟨rfl, rfl⟩)
      go_ret
      rw [E1.out, E2.out, E3.out]
      exact ⟨rfl, Chg.one b _ _ w, by simp [go_sem, h0], by simp [go_sem, h1], fun o => by simp [go_sem, hf]⟩
    · have E1 : Hid (cutO r false n = r.extract 0 n) := by show _ = _; unfold cutO; exact if_neg (by simpa using hn)
      have E2 : Hid (cutS r false n = r.extract n r.size) := by show _ = _; unfold cutS; exact if_neg (by simpa using hn)
      have E3 : Hid (cutB r false n = false) := by show _ = _; unfold cutB; simpa using hn
      have hi : inB (n : Int) 0 r.size = true := by rw [inB_iff]; omega
      have hn1 : n ≤ r.size := by omega
      have hn2 : (n : Int) ≤ r.size := by omega
      go_enter Try.func85, Try.ntmps85
      go_wp2_with (go_at_call 61; (with_reducible refine (within_any _ _ _ _).mono ?_); rintro e w' ⟨rfl, rfl⟩)
      go_ret
      rw [E1.out, E2.out, E3.out]
      exact ⟨rfl, Chg.one b _ _ w, by simp [go_sem, h0], by simp [go_sem, h1], fun o => by simp [go_sem, hf]⟩
  · have E1 : Hid (cutO r true n = ⟨#[]⟩) := by show _ = _; unfold cutO; exact if_pos (.inl rfl)
    have E2 : Hid (cutS r true n = r) := by show _ = _; unfold cutS; exact if_pos (.inl rfl)
    have E3 : Hid (cutB r true n = true) := rfl
    go_enter Try.func85, Try.ntmps85
    go_wp2_with (go_at_call 61; (with_reducible refine (within_any _ _ _ _).mono ?_); rintro e w' ⟨rfl, rfl⟩)
    go_ret
    rw [E1.out, E2.out, E3.out]
    exact ⟨rfl, Chg.one b _ _ w, by simp [go_sem, h0], by simp [go_sem, h1], fun o => by simp [go_sem, hf]⟩

set_option maxHeartbeats 1000000 in
theorem text_any (b : Nat) (r : ByteArray) (bad : Bool) (w : World) (h0 : w.cell? ⟨b, 0, none⟩ = some (.string r)) (h1 : w.cell? ⟨b, 1, none⟩ = some (.bool bad)) (hf : ∀ o, w.frozen? ⟨b, o, none⟩ = false) (hlt : b < w.heap.size) (hs : r.size ≤ 2097152) :
    Calls Try.prog 81 #[.pointer (some ⟨b, 0, none⟩)] w fun e w' => e = .returned (.string (cutO (numS r bad) (numB r bad) (numN r bad))) ∧ Chg b (b + 1) w w' ∧ w'.cell? ⟨b, 0, none⟩ = some (.string (cutS (numS r bad) (numB r bad) (numN r bad))) ∧ w'.cell? ⟨b, 1, none⟩ = some (.bool (cutB (numS r bad) (numB r bad) (numN r bad))) ∧ ∀ o, w'.frozen? ⟨b, o, none⟩ = false := by
  have hns := numS_size r bad
  go_enter Try.func81, Try.ntmps81
  go_wp2_with fail
  refine (num_any b r bad _ h0 h1 hf hlt hs).mono ?_
  rintro e w1 ⟨rfl, hc, e0, e1, ef⟩
  have hlt1 : b < w1.heap.size := by have := hc.size; omega
  have HC := Lib.hid hc
  clear hc h0 h1 hf
  go_wp2_with fail
  refine (cut_any b _ _ _ _ e0 e1 ef hlt1 (by omega)).mono ?_
  rintro e w2 ⟨rfl, hc, d0, d1, df⟩
  have HC2 := Lib.hid (HC.out.trans hc)
  clear hc e0 e1 ef
  go_wp2_with fail
  go_ret
  exact ⟨rfl, HC2.out, d0, d1, df⟩
end Go.Proofs.Ytpfppkjikkihfaa
