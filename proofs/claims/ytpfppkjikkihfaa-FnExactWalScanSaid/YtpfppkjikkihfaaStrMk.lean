/- Slices of strings: comparison and marks. -/
import Derived.Test.YtpfppkjikkihfaaWalScan2
import Derived.Test.YtpfppkjikkihfaaChg
import Derived.WalkKit
import Derived.WalkSpells
import Derived.WalkLawsBesides
import Derived.Lib.Hide
namespace Go.Proofs.Ytpfppkjikkihfaa
open Go.RowKit

theorem str_cells {w : World} {B : Nat} {A : Option Addr} {n c : Nat} {l : List ByteArray} (h : RdL strC 1 w B A n c l) {k : Nat} (hk : k < n) :
    ∃ b off x, A = some ⟨b, off, none⟩ ∧ b < B ∧ l[k]? = some x ∧ w.cell? ⟨b, off + k, none⟩ = some (.string x) := by
  obtain ⟨b, off, p, e, hb, hp, hc⟩ := h.at_ strC_len hk
  exact ⟨b, off, p, e, hb, hp, by have := hc 0 (by omega); simpa [strC] using this⟩
def marksStr (k n : Nat) : List ByteArray := (List.range n).map fun i => markT (k + i)
theorem marksStr_len (k n : Nat) : (marksStr k n).length = n := by simp [marksStr]
theorem marksStr_at (k n i : Nat) (h : i < n) : (marksStr k n)[i]? = some (markT (k + i)) := by simp [marksStr, h]

set_option maxHeartbeats 1000000 in
theorem eqStringS_same (A : Option Addr) (n c : Nat) (A' : Option Addr) (c' : Nat) (l : List ByteArray) (w : World) (hl : RdL strC 1 w w.heap.size A n c l) (hl' : RdL strC 1 w w.heap.size A' n c' l) :
    Calls Try.prog 37 #[.slice A n c, .slice A' n c'] w fun e w' => e = .returned (.bool true) ∧ Below w.heap.size w w' := by
  have hn := hl.le
  have HL := Lib.hid hl
  have HL' := Lib.hid hl'
  clear hl hl'
  go_enter Try.func37, Try.ntmps37
  go_wp2_with fail
  go_loopw [5] (fun i wr => ∃ k : Nat, k ≤ n ∧ i = .int .i64 k ∧ Below w.heap.size w wr) (fun i _ => n - (intOf i).toNat)
  case atStart => exact ⟨0, by omega, rfl, Below.refl _ _⟩
  case round =>
    obtain ⟨k, hk, rfl, hb⟩ := hrel
    have hz := hb.size
    by_cases hkn : k < n
    · obtain ⟨b, off, x, rfl, hb1, hp, c0⟩ := str_cells (HL.out.below hb (Nat.le_refl _)) hkn
      obtain ⟨b', off', x', rfl, hb1', hp', d0⟩ := str_cells (HL'.out.below hb (Nat.le_refl _)) hkn
      rw [hp] at hp'
      obtain rfl : x = x' := by injection hp'
      clear hp hp'
      have hlt : b < wr.heap.size := by omega
      have hlt' : b' < wr.heap.size := by omega
      go_wp2_with fail
      refine wp_region_below (by kernel_rfl) (by kernel_rfl) ?_
      repeat (first | go_big_quiet_skip | (go_big_quiet_want; go_big_quiet_op; first | go_big_quiet_on | (apply Exists.intro; refine ⟨fun w1 hC => ?_, ?_⟩; (focus (first | rfl | fail | (simp [(bcell hC).1, hlt, hlt', c0, d0]; done) | (simp [(bcell hC).1, hlt, hlt', c0, d0]; rfl))); go_big_quiet_on)))
      refine wpQuiet_nil ?_
      intro w2 hb2
      obtain ⟨hc2, hf2, hz2⟩ := bcell hb2
      go_wp2
      go_roundw
      case rel => exact ⟨k + 1, by omega, by go_num, hb.trans (hb2.mono hz)⟩
      case measure => simp [intOf]; omega
    · obtain rfl : k = n := by omega
      go_wp2
      go_ret
      exact ⟨rfl, hb⟩

set_option maxHeartbeats 2000000 in
theorem markStringS_any (T : TypeId) (A : Option Addr) (n c : Nat) (l : List ByteArray) (lo hi k : Nat) (w : World) (hl : OwnL strC 1 T w lo hi A n c l) (hk0 : 0 < k) (hn : n ≤ 2097152) (hk : k ≤ 100000000) :
    Calls Try.prog 38 #[.slice A n c, .int .i64 k] w (MarkOut strC 1 T lo hi A n c (marksStr k n) ((k + n : Nat) : Int) w) := by
  obtain ⟨hll, h0 | ⟨g, cur, rfl, hg1, hg2, hblk, hnc, hcm, hsz, _⟩⟩ := hl
  · obtain ⟨rfl, rfl, rfl⟩ := h0
    go_enter Try.func38, Try.ntmps38
    go_wp2_with fail
    go_loop [1, 5] (fun kk i => kk = .int .i64 (k : Int) ∧ i = .int .i64 0) (fun _ _ => 0)
    case atStart => exact ⟨rfl, rfl⟩
    case round =>
    obtain ⟨rfl, rfl⟩ := hrel
    go_wp2
    go_ret
    exact ⟨by simp, ⟨by simp [marksStr], .inl ⟨rfl, rfl, rfl⟩⟩, Chg.refl _ _ _⟩
  · have hn' : n ≤ 9223372036854775807 := by omega
    have H0 : Hid (Laid strC 1 (marksStr k n) 0 c w g T) := ⟨cur, hblk, hsz, fun j hj => absurd hj (by omega)⟩
    have hgw := hblk.lt
    clear hblk hsz
    go_enter Try.func38, Try.ntmps38
    go_wp2_with fail
    go_loopw [1, 5] (fun kk i wr => ∃ j : Nat, j ≤ n ∧ i = .int .i64 j ∧ kk = .int .i64 ((k + j : Nat) : Int) ∧ Chg lo hi w wr ∧ Laid strC 1 (marksStr k n) j c wr g T) (fun _ i _ => n - (intOf i).toNat)
    case atStart => exact ⟨0, by omega, rfl, by simp, Chg.refl _ _ _, H0.out⟩
    case round =>
      obtain ⟨j, hj, rfl, rfl, hb, cur, h1, h2, h3⟩ := hrel
      have H1 := Lib.hid h1; have H2 := Lib.hid h2; have H3 := Lib.hid h3; have HB := Lib.hid hb
      have hgr := h1.lt
      clear h1 h2 h3 H0 hb
      generalize hq : k + j = q
      have HQ := Lib.hid hq
      have hq1 : q ≤ 1000000000 := by omega
      have hq0 : 0 < q := by omega
      clear hq
      by_cases hjn : j < n
      · have hsz : j < cur.size := by rw [H2.out]; omega
        go_wp2_with fail
        refine (markText_at _ q _ hq0 (by omega) rfl).mono ?_
        rintro e v0 ⟨rfl, hb0⟩
        have HV0 := Lib.hid hb0
        have HQ1 := Lib.hid (H1.out.below hb0 hgr)
        have qf := HQ1.out.frozen
        have q0 := HQ1.out.has j hsz
        clear hb0
        go_wp2
        go_roundw
        case rel => exact ⟨j + 1, by omega, by go_num, by rw [show k + (j + 1) = q + 1 from by have := HQ.out; omega]; go_num, (HB.out.below_trans HV0.out).setCell hg1 hg2 _,
          Laid.next strC_len (marksStr_at k n j hjn) (HQ1.out.set_ _ _) (by simpa using H2.out) (fun i hi => by simp [Array.getElem?_setIfInBounds]; rw [if_neg (by omega)]; exact H3.out i (by omega))
            (fun i hi => by have h0 : i = 0 := (by omega); subst h0; rw [HQ.out]; simp [Array.getElem?_setIfInBounds, strC, hsz])⟩
        case measure => simp [intOf]; omega
      · obtain rfl : j = n := by omega
        go_wp2
        go_ret
        exact ⟨by rw [HQ.out]; rfl, ⟨marksStr_len _ _, .inr ⟨g, cur, rfl, hg1, hg2, H1.out, hnc, hcm, H2.out, H3.out⟩⟩, HB.out⟩

set_option maxHeartbeats 2000000 in
theorem heldStringS_any (A : Option Addr) (n c : Nat) (k : Nat) (w : World) (hl : RdL strC 1 w w.heap.size A n c (marksStr k n)) (hk0 : 0 < k) (hn : n ≤ 2097152) (hk : k ≤ 100000000) :
    Calls Try.prog 39 #[.slice A n c, .int .i64 k] w fun e w' => e = .returned (.int .i64 ((k + n : Nat) : Int)) ∧ Below w.heap.size w w' := by
  have HL := Lib.hid hl
  clear hl
  go_enter Try.func39, Try.ntmps39
  go_wp2_with fail
  go_loopw [1, 5] (fun kk i wr => ∃ j : Nat, j ≤ n ∧ i = .int .i64 j ∧ kk = .int .i64 ((k + j : Nat) : Int) ∧ Below w.heap.size w wr) (fun _ i _ => n - (intOf i).toNat)
  case atStart => exact ⟨0, by omega, rfl, by simp, Below.refl _ _⟩
  case round =>
    obtain ⟨j, hj, rfl, rfl, hb⟩ := hrel
    have hz := hb.size
    generalize hq : k + j = q
    have HQ := Lib.hid hq
    have hq1 : q ≤ 1000000000 := by omega
    have hq0 : 0 < q := by omega
    clear hq
    by_cases hjn : j < n
    · obtain ⟨b, off, x, rfl, hb1, hp, c0⟩ := str_cells (HL.out.below hb (Nat.le_refl _)) hjn
      rw [marksStr_at k n j hjn, HQ.out] at hp
      obtain rfl : markT q = x := by injection hp
      clear hp
      have hbl : b < wr.heap.size := by omega
      go_wp2_with fail
      refine wp_region_below (by kernel_rfl) (by kernel_rfl) ?_
      repeat (first | go_big_quiet_skip | (go_big_quiet_want; go_big_quiet_op; first | go_big_quiet_on | (apply Exists.intro; refine ⟨fun w1 hC => ?_, ?_⟩; (focus (first | rfl | (go_at_call 66; exact quiet_below hC (markText_at _ q _ hq0 (by omega) rfl)) | (simp [(bcell hC).1, hbl, c0]; done) | (simp [(bcell hC).1, hbl, c0]; rfl))); go_big_quiet_on)))
      refine wpQuiet_nil ?_
      intro w2 hb2
      obtain ⟨hc2, hf2, hz2⟩ := bcell hb2
      have HV := Lib.hid hb2
      clear hb2
      go_wp2
      go_roundw
      case rel => exact ⟨j + 1, by omega, by go_num, by rw [show k + (j + 1) = q + 1 from by have := HQ.out; omega]; go_num, hb.trans (HV.out.mono hz)⟩
      case measure => simp [intOf]; omega
    · obtain rfl : j = n := by omega
      go_wp2
      go_ret
      exact ⟨by rw [HQ.out]; rfl, hb⟩
theorem scanF_bd (log : ByteArray) (f : Nat) : ∀ (a : Nat) (acc : List ByteArray), a ≤ log.size → acc.length ≤ a → (scanF log f a acc).2 ≤ log.size ∧ (scanF log f a acc).1.length ≤ (scanF log f a acc).2 := by
  induction f with
  | zero => intro a acc h1 h2; exact ⟨h1, h2⟩
  | succ f ih =>
    intro a acc h1 h2
    cases h : stepS log a with
    | none => rw [scanF_none (by omega) h]; exact ⟨h1, h2⟩
    | some r =>
      obtain ⟨s, e⟩ := r
      obtain ⟨_, _, p3, p4, _⟩ := step_fit h
      rw [scanF_some h]
      exact ih e _ p4 (by simp; omega)
theorem scanS_bd (log : ByteArray) : (scanS log).2 ≤ log.size ∧ (scanS log).1.length ≤ (scanS log).2 := scanF_bd log _ 0 [] (Nat.zero_le _) (by simp)
theorem WalTrim_any (log : ByteArray) (w : World) (hs : log.size ≤ 1048576) :
    Calls Try.prog 34 #[.string log] w fun e w' => e = .returned (.string (log.extract 0 (scanS log).2)) ∧ Below w.heap.size w w' := by
  obtain ⟨h1, h2⟩ := scanS_bd log
  have h3 : (((scanS log).2 : Nat) : Int) ≤ log.size := by omega
  go_enter Try.func34, Try.ntmps34
  go_wp2_with fail
  refine (WalScan_any log _ hs).mono ?_
  rintro e w1 ⟨A, c, rfl, _, hb⟩
  have hlen : (scanS log).1.length ≤ 9223372036854775807 := by omega
  generalize hq : (scanS log).2 = a at *
  have HQ := Lib.hid hq
  clear hq
  go_wp2_with fail
  go_ret
  exact ⟨by rw [HQ.out]; rfl, hb⟩
theorem sWalTrim_any (log : ByteArray) (w : World) (hs : log.size ≤ 1048576) :
    Calls Try.prog 33 #[.string log] w fun e w' => e = .returned (.string (log.extract 0 (scanS log).2)) ∧ Below w.heap.size w w' := by
  obtain ⟨h1, h2⟩ := scanS_bd log
  have h3 : (((scanS log).2 : Nat) : Int) ≤ log.size := by omega
  go_enter Try.func33, Try.ntmps33
  go_wp2_with fail
  refine (sWalScan_any log _ hs).mono ?_
  rintro e w1 ⟨A, c, rfl, _, hb⟩
  have hlen : (scanS log).1.length ≤ 9223372036854775807 := by omega
  generalize hq : (scanS log).2 = a at *
  have HQ := Lib.hid hq
  clear hq
  go_wp2_with fail
  go_ret
  exact ⟨by rw [HQ.out]; rfl, hb⟩
end Go.Proofs.Ytpfppkjikkihfaa
