/- WalScan of the program and of the reference. -/
import Derived.Test.YtpfppkjikkihfaaScan2
import Derived.Test.YtpfppkjikkihfaaWalAdd
import Derived.Test.YtpfppkjikkihfaaApp
import Derived.WalkKit
import Derived.WalkSpells
import Derived.WalkLawsBesides
import Derived.Lib.Hide
namespace Go.Proofs.Ytpfppkjikkihfaa
open Go.RowKit

theorem ba_list (s : ByteArray) : (⟨s.data.toList.toArray⟩ : ByteArray) = s := by
  apply ByteArray.ext; simp
theorem WalRec_b (s : ByteArray) (w : World) (hs : s.size ≤ 2097152) :
    Calls Try.prog 25 #[.string s] w fun e w' => e = .returned (.string ⟨(walRecL s.data.toList).toArray⟩) ∧ Below w.heap.size w w' := by
  have h := WalRec_any s.data.toList w (by simp; omega)
  rw [ba_list] at h; exact h
theorem sWalRec_b (s : ByteArray) (w : World) (hs : s.size ≤ 2097152) :
    Calls Try.prog 24 #[.string s] w fun e w' => e = .returned (.string ⟨(walRecL s.data.toList).toArray⟩) ∧ Below w.heap.size w w' := by
  have h := sWalRec_any s.data.toList w (by simp; omega)
  rw [ba_list] at h; exact h

def recFits (log : ByteArray) (a : Nat) (s : ByteArray) (e : Nat) : Bool := decide (s.size ≤ 60) && ((log.extract a e).toList == walRecL s.data.toList)
/-- the record that begins at a place, and where it ends -/
def stepS (log : ByteArray) (a : Nat) : Option (ByteArray × Nat) :=
  match takeS log (a + 4) with
  | some (s, e) => if recFits log a s e = true then some (s, e) else none
  | none => none
def walAtS (log : ByteArray) : Option ByteArray := (stepS log 0).map Prod.fst
def walV (r : Option ByteArray) : Value := match r with | some s => .tuple #[.string s, .bool true] | none => .tuple #[.string ⟨#[]⟩, .bool false]

theorem takeS_fit {log : ByteArray} {a : Nat} {s : ByteArray} {e : Nat} (h : takeS log a = some (s, e)) : a < e ∧ e ≤ log.size ∧ s.size ≤ log.size ∧ ∃ k, k ≤ 7 ∧ s = log.extract (a + k) e ∧ a + k + s.size = e ∧ (varL (s.size : Int)).length = k := by
  unfold takeS at h
  split at h
  · rename_i x k hv
    obtain ⟨f1, f2, f3, f4, f5⟩ := varAt_fit hv
    split at h
    · cases h
    · injection h with h
      injection h with h1 h2
      subst h1 h2
      have hsz : (log.extract (a + k) (a + k + x)).size = x := by rw [ByteArray.size_extract]; omega
      obtain ⟨g1, g2⟩ := rvL_fit f3 f2
      refine ⟨by omega, by omega, by rw [hsz]; omega, k, f5, rfl, by rw [hsz], ?_⟩
      rw [hsz, g1, List.length_take]
      omega
  · cases h
theorem step_fit {log : ByteArray} {a : Nat} {s : ByteArray} {e : Nat} (h : stepS log a = some (s, e)) : takeS log (a + 4) = some (s, e) ∧ recFits log a s e = true ∧ a + 4 < e ∧ e ≤ log.size ∧ (walRecL s.data.toList).length = e - a := by
  unfold stepS at h
  split at h
  · rename_i s' e' ht
    split at h
    · rename_i hf
      injection h with h
      injection h with h1 h2
      subst h1 h2
      obtain ⟨f1, f2, f3, k, f4, f5, f6, f7⟩ := takeS_fit ht
      refine ⟨ht, hf, f1, f2, ?_⟩
      simp only [recFits, Bool.and_eq_true, decide_eq_true_eq] at hf
      have hl : s'.data.toList.length = s'.size := by simp
      unfold walRecL
      rw [if_pos (by rw [hl]; exact hf.1)]
      simp only [List.length_append, be_len, sizedL, hl, f7]
      omega
    · cases h
  · cases h
theorem varAt_shift (log : ByteArray) (a b : Nat) (ha : a ≤ log.size) : varAt (log.extract a log.size) b = varAt log (a + b) := by
  unfold varAt
  rw [extract_drop, List.drop_drop, ByteArray.size_extract]
  by_cases h : log.size < a + b
  · rw [if_pos h, if_pos (by omega)]
  · rw [if_neg h, if_neg (by omega)]
theorem takeS_shift (log : ByteArray) (a b : Nat) (ha : a ≤ log.size) : takeS (log.extract a log.size) b = (takeS log (a + b)).map fun r => (r.1, r.2 - a) := by
  unfold takeS
  rw [varAt_shift log a b ha]
  cases varAt log (a + b) with
  | none => rfl
  | some r =>
    obtain ⟨x, k⟩ := r
    simp only [ByteArray.size_extract]
    by_cases h : log.size < a + b + k + x
    · rw [if_pos h, if_pos (by omega)]; rfl
    · rw [if_neg h, if_neg (by omega)]
      simp only [Option.map_some, Option.some.injEq, Prod.mk.injEq]
      refine ⟨?_, by omega⟩
      rw [ByteArray.extract_extract]
      congr 1 <;> omega
theorem step_shift (log : ByteArray) (a : Nat) (ha : a ≤ log.size) : walAtS (log.extract a log.size) = (stepS log a).map Prod.fst := by
  unfold walAtS stepS
  rw [Nat.zero_add, takeS_shift log a 4 ha]
  cases ht : takeS log (a + 4) with
  | none => rfl
  | some r =>
    obtain ⟨s, e⟩ := r
    obtain ⟨f1, f2, f3, _⟩ := takeS_fit ht
    have hx : (log.extract a log.size).extract 0 (e - a) = log.extract a e := by
      rw [ByteArray.extract_extract]
      congr 1 <;> omega
    have hr : recFits (log.extract a log.size) 0 s (e - a) = recFits log a s e := by unfold recFits; rw [hx]
    show Option.map Prod.fst (if recFits (log.extract a log.size) 0 s (e - a) = true then some (s, e - a) else none) = Option.map Prod.fst (if recFits log a s e = true then some (s, e) else none)
    rw [hr]
    by_cases hb : recFits log a s e = true
    · rw [if_pos hb, if_pos hb]; rfl
    · rw [if_neg hb, if_neg hb]
/-- the records from a place on -/
def scanF (log : ByteArray) : Nat → Nat → List ByteArray → List ByteArray × Nat
  | 0, a, acc => (acc, a)
  | f + 1, a, acc => match stepS log a with
    | some (s, e) => scanF log f e (acc ++ [s])
    | none => (acc, a)
theorem scanF_none {log : ByteArray} {f a : Nat} {acc : List ByteArray} (hf : 0 < f) (h : stepS log a = none) : scanF log f a acc = (acc, a) := by
  cases f with
  | zero => omega
  | succ f => simp only [scanF, h]
theorem scanF_some {log : ByteArray} {f a : Nat} {acc : List ByteArray} {s : ByteArray} {e : Nat} (h : stepS log a = some (s, e)) : scanF log (f + 1) a acc = scanF log f e (acc ++ [s]) := by
  simp only [scanF, h]
def scanS (log : ByteArray) : List ByteArray × Nat := scanF log (log.size + 1) 0 []

/-- text, by what takeS says -/
theorem text_take (log : ByteArray) (h : 4 ≤ log.size) :
    (takeS log 4 = none ∧ cutO (numS (log.extract 4 log.size) false) (numB (log.extract 4 log.size) false) (numN (log.extract 4 log.size) false) = ⟨#[]⟩ ∧ cutB (numS (log.extract 4 log.size) false) (numB (log.extract 4 log.size) false) (numN (log.extract 4 log.size) false) = true) ∨
    ∃ s e, takeS log 4 = some (s, e) ∧ cutO (numS (log.extract 4 log.size) false) (numB (log.extract 4 log.size) false) (numN (log.extract 4 log.size) false) = s ∧ cutB (numS (log.extract 4 log.size) false) (numB (log.extract 4 log.size) false) (numN (log.extract 4 log.size) false) = false := by
  unfold takeS varAt numS numB numN
  rw [extract_drop, if_neg (show ¬ log.size < 4 by omega)]
  by_cases hk : (rvL (log.data.toList.drop 4)).2 = 0
  · left
    rw [if_pos hk]
    refine ⟨rfl, ?_, ?_⟩
    · unfold cutO; rw [if_pos (.inl (by simp [hk]))]
    · unfold cutB; simp [hk]
  · rw [if_neg hk, if_neg (by simpa using hk)]
    have hb : (false || (rvL (log.data.toList.drop 4)).2 == 0) = false := by simpa using hk
    have hle := rvL_le (log.data.toList.drop 4)
    rw [List.length_drop] at hle
    simp at hle
    rw [hb]
    generalize rvL (log.data.toList.drop 4) = r at *
    obtain ⟨x, k⟩ := r
    simp only at hle hk ⊢
    have hsz : ((log.extract 4 log.size).extract k (log.extract 4 log.size).size).size = log.size - 4 - k := by simp only [ByteArray.size_extract]; omega
    by_cases hx : log.size < 4 + k + x
    · left
      rw [if_pos hx]
      refine ⟨rfl, ?_, ?_⟩
      · unfold cutO; rw [if_pos (.inr (by rw [hsz]; simp; omega))]
      · unfold cutB; rw [hsz]; simp; omega
    · right
      rw [if_neg hx]
      refine ⟨_, _, rfl, ?_, ?_⟩
      · unfold cutO
        rw [if_neg (by rw [hsz]; simp; omega)]
        simp only [ByteArray.extract_extract, ByteArray.size_extract]
        simp only [Bool.false_eq_true, if_false]
        congr 1 <;> omega
      · unfold cutB; rw [hsz]; simp; omega
theorem take_small (log : ByteArray) (h : log.size < 5) : takeS log 4 = none := by
  have : varAt log 4 = none := by
    unfold varAt
    by_cases h4 : log.size < 4
    · rw [if_pos h4]
    · rw [if_neg h4]
      have : log.data.toList.drop 4 = [] := List.drop_eq_nil_of_le (by simp; omega)
      rw [this]; rfl
  unfold takeS; rw [this]

set_option maxRecDepth 100000 in
set_option maxHeartbeats 2000000 in
theorem walAt_any (log : ByteArray) (w : World) (hs : log.size ≤ 1048576) :
    Calls Try.prog 65 #[.string log] w fun e w' => e = .returned (walV (walAtS log)) ∧ Below w.heap.size w w' := by
  by_cases h5 : log.size < 5
  · have HE : Hid (walAtS log = none) := by show _ = _; unfold walAtS stepS; rw [take_small log h5]; rfl
    have h5i : ((log.size : Nat) : Int) < 5 := by omega
    go_enter Try.func65, Try.ntmps65
    go_wp2_with fail
    go_ret2
    exact ⟨by rw [HE.out]; rfl, Below.refl _ _⟩
  · have h5i : ¬ ((log.size : Nat) : Int) < 5 := by omega
    have h4i : (4 : Int) ≤ log.size := by omega
    have h4 : 4 ≤ log.size := by omega
    have hes : (log.extract 4 log.size).size ≤ 2097152 := by rw [ByteArray.size_extract]; omega
    rcases text_take log h4 with ⟨ht, hc1, hc2⟩ | ⟨s, e, ht, hc1, hc2⟩
    · have HE : Hid (walAtS log = none) := by show _ = _; unfold walAtS stepS; rw [ht]; rfl
      have H1 := Lib.hid hc1
      have H2 := Lib.hid hc2
      clear ht hc1 hc2
      go_enter Try.func65, Try.ntmps65
      go_wp2_with fail
      refine (text_any w.heap.size (log.extract 4 log.size) false _ (by simp) (by simp) (fun o => by simp) (by simp) hes).mono ?_
      rw [H1.out, H2.out]
      rintro e w1 ⟨rfl, hc, e0, e1, ef⟩
      have HC := Lib.hid ((((Chg.refl w.heap.size (w.heap.size + 1) w).alloc _)).trans hc)
      have hz1 : w.heap.size < w1.heap.size := by have := hc.size; simp at this; omega
      clear hc
      go_wp2_with fail
      refine (WalRec_b ⟨#[]⟩ _ (by decide)).mono ?_
      rintro e w2 ⟨rfl, hb⟩
      have k1 := (hb.cell (p := ⟨w.heap.size, 1, none⟩) hz1).trans e1
      have HB : Hid (Below w.heap.size w w2) := (HC.out.below (Nat.le_refl _) (Nat.le_refl _)).trans (hb.mono (by omega))
      clear hb e0 e1 ef
      generalize walRecL (⟨#[]⟩ : ByteArray).data.toList = r at *
      go_wp2_with fail
      go_ret2
      exact ⟨by rw [HE.out]; rfl, HB.out⟩
    · have H1 := Lib.hid hc1
      have H2 := Lib.hid hc2
      have HT := Lib.hid ht
      obtain ⟨f1, f2, f3, k, f4, f5, f6, f7⟩ := takeS_fit ht
      have hrf : Hid (walAtS log = if recFits log 0 s e = true then some s else none) := by show _ = _; unfold walAtS stepS; rw [ht]; simp only; split <;> rfl
      clear ht hc1 hc2 f5
      by_cases h60 : s.size ≤ 60
      · have hlen : (walRecL s.data.toList).length = e := by
          have hl : s.data.toList.length = s.size := by simp
          unfold walRecL
          rw [if_pos (by rw [hl]; exact h60)]
          simp only [List.length_append, be_len, sizedL, hl, f7]
          omega
        have HRF : Hid (recFits log 0 s e = ((log.extract 0 e).toList == walRecL s.data.toList)) := by show _ = _; unfold recFits; simp [h60]
        have hW : ∀ w, Hid (Calls Try.prog 25 #[.string s] w fun e w' => e = .returned (.string ⟨(walRecL s.data.toList).toArray⟩) ∧ Below w.heap.size w w') := fun w => WalRec_b s w (by omega)
        clear h60 f7
        generalize walRecL s.data.toList = r at *
        have hne : r.isEmpty = false := by cases r; simp at hlen; omega; rfl
        subst hlen
        have hlg : ¬ ((log.size : Nat) : Int) < r.length := by omega
        have hlh : ((r.length : Nat) : Int) ≤ log.size := by omega
        cases hq : ((log.extract 0 r.length).toList == r)
        · have HE : Hid (walAtS log = none) := by show _ = _; rw [hrf.out, HRF.out, hq]; rfl
          go_enter Try.func65, Try.ntmps65
          go_wp2_with fail
          refine (text_any w.heap.size (log.extract 4 log.size) false _ (by simp) (by simp) (fun o => by simp) (by simp) hes).mono ?_
          rw [H1.out, H2.out]
          rintro e w1 ⟨rfl, hc, e0, e1, ef⟩
          have HC := Lib.hid ((((Chg.refl w.heap.size (w.heap.size + 1) w).alloc _)).trans hc)
          have hz1 : w.heap.size < w1.heap.size := by have := hc.size; simp at this; omega
          clear hc
          go_wp2_with fail
          refine ((hW _).out).mono ?_
          rintro e w2 ⟨rfl, hb⟩
          have k1 := (hb.cell (p := ⟨w.heap.size, 1, none⟩) hz1).trans e1
          have HB : Hid (Below w.heap.size w w2) := (HC.out.below (Nat.le_refl _) (Nat.le_refl _)).trans (hb.mono (by omega))
          clear hb e0 e1 ef
          go_wp2_with fail
          go_ret2
          exact ⟨by rw [HE.out]; rfl, HB.out⟩
        · have HE : Hid (walAtS log = some s) := by show _ = _; rw [hrf.out, HRF.out, hq]; rfl
          go_enter Try.func65, Try.ntmps65
          go_wp2_with fail
          refine (text_any w.heap.size (log.extract 4 log.size) false _ (by simp) (by simp) (fun o => by simp) (by simp) hes).mono ?_
          rw [H1.out, H2.out]
          rintro e w1 ⟨rfl, hc, e0, e1, ef⟩
          have HC := Lib.hid ((((Chg.refl w.heap.size (w.heap.size + 1) w).alloc _)).trans hc)
          have hz1 : w.heap.size < w1.heap.size := by have := hc.size; simp at this; omega
          clear hc
          go_wp2_with fail
          refine ((hW _).out).mono ?_
          rintro e w2 ⟨rfl, hb⟩
          have k1 := (hb.cell (p := ⟨w.heap.size, 1, none⟩) hz1).trans e1
          have HB : Hid (Below w.heap.size w w2) := (HC.out.below (Nat.le_refl _) (Nat.le_refl _)).trans (hb.mono (by omega))
          clear hb e0 e1 ef
          go_wp2_with fail
          go_ret2
          exact ⟨by rw [HE.out]; rfl, HB.out⟩
      · have HE : Hid (walAtS log = none) := by show _ = _; rw [hrf.out]; unfold recFits; simp [h60]
        have hR : Hid (walRecL s.data.toList = []) := by show _ = _; unfold walRecL; rw [if_neg (by simp; omega)]
        go_enter Try.func65, Try.ntmps65
        go_wp2_with fail
        refine (text_any w.heap.size (log.extract 4 log.size) false _ (by simp) (by simp) (fun o => by simp) (by simp) hes).mono ?_
        rw [H1.out, H2.out]
        rintro e w1 ⟨rfl, hc, e0, e1, ef⟩
        have HC := Lib.hid ((((Chg.refl w.heap.size (w.heap.size + 1) w).alloc _)).trans hc)
        have hz1 : w.heap.size < w1.heap.size := by have := hc.size; simp at this; omega
        clear hc
        go_wp2_with fail
        refine (WalRec_b s _ (by omega)).mono ?_
        rw [hR.out]
        rintro e w2 ⟨rfl, hb⟩
        have k1 := (hb.cell (p := ⟨w.heap.size, 1, none⟩) hz1).trans e1
        have HB : Hid (Below w.heap.size w w2) := (HC.out.below (Nat.le_refl _) (Nat.le_refl _)).trans (hb.mono (by omega))
        clear hb e0 e1 ef
        go_wp2_with fail
        go_ret2
        exact ⟨by rw [HE.out]; rfl, HB.out⟩
end Go.Proofs.Ytpfppkjikkihfaa
