/- Draws: the cursor, l1New, l1Byte, l1Below, l1Once, l1PickInt. -/
import Derived.Test.YtelnnegfkdfpiaaGreatDoorChg
import Derived.Laws.BitsLemmas
import Derived.Deep.DeepMust
import Derived.Deep.RegionWith
import Derived.Deep.DeepCutAuto
import Derived.WalkKit
import Derived.WalkSpells
import Derived.WalkLawsBesides
import Derived.Lib.Hide
namespace Go.Proofs.YtelnnegfkdfpiaaGreatDoor
open Go.RowKit

def octC (x : UInt8) : List Value := [.int .u8 (x.toNat : Int)]
theorem octC_len (x : UInt8) : (octC x).length = 1 := rfl
theorem oct_cells {w : World} {B : Nat} {A : Option Addr} {n c : Nat} {l : List UInt8} (h : RdL octC 1 w B A n c l) {k : Nat} (hk : k < n) :
    ∃ b off x, A = some ⟨b, off, none⟩ ∧ b < B ∧ l[k]? = some x ∧ w.cell? ⟨b, off + k, none⟩ = some (.int .u8 (x.toNat : Int)) := by
  obtain ⟨b, off, p, e, hb, hp, hc⟩ := h.at_ octC_len hk
  exact ⟨b, off, p, e, hb, hp, by have := hc 0 (by omega); simpa [octC] using this⟩

theorem low_i64 (n : Int) (h₀ : 0 ≤ n) (h₁ : n < 2 ^ 63) : IntKind.i64.wrap n = n := by rw [IntKind.wrap_i64]; omega
set_option maxRecDepth 100000 in
theorem i64_and_mask (x : Int) : 0 ≤ bits .and .i64 x 255 ∧ bits .and .i64 x 255 ≤ 255 := by
  have h1 : ((BitVec.ofInt 64 x &&& BitVec.ofInt 64 255).toNat) ≤ 255 := by
    rw [BitVec.toNat_and]
    exact Nat.and_le_right
  have e : bits .and .i64 x 255 = (((BitVec.ofInt 64 x &&& BitVec.ofInt 64 255).toNat : Nat) : Int) := by
    unfold bits
    exact low_i64 _ (Int.natCast_nonneg _) (by
      have : (2 : Int) ^ 63 = 9223372036854775808 := by decide
      have h2 : (((BitVec.ofInt 64 x &&& BitVec.ofInt 64 255).toNat : Nat) : Int) ≤ 255 := by omega
      show (((BitVec.ofInt 64 x &&& BitVec.ofInt 64 255).toNat : Nat) : Int) < _
      omega)
  rw [e]
  omega
set_option maxRecDepth 100000 in
theorem i64_and30 (x : Int) : 0 ≤ bits .and .i64 x 1073741823 ∧ bits .and .i64 x 1073741823 ≤ 1073741823 := by
  have h1 : ((BitVec.ofInt 64 x &&& BitVec.ofInt 64 1073741823).toNat) ≤ 1073741823 := by
    rw [BitVec.toNat_and]
    exact Nat.and_le_right
  have e : bits .and .i64 x 1073741823 = (((BitVec.ofInt 64 x &&& BitVec.ofInt 64 1073741823).toNat : Nat) : Int) := by
    unfold bits
    exact low_i64 _ (Int.natCast_nonneg _) (by
      have : (2 : Int) ^ 63 = 9223372036854775808 := by decide
      have h2 : (((BitVec.ofInt 64 x &&& BitVec.ofInt 64 1073741823).toNat : Nat) : Int) ≤ 1073741823 := by omega
      show (((BitVec.ofInt 64 x &&& BitVec.ofInt 64 1073741823).toNat : Nat) : Int) < _
      omega)
  rw [e]
  omega

/-- a cursor over a code -/
structure Cur (w : World) (cb : Nat) (A : Option Addr) (n c : Nat) : Prop where
  row : w.cell? ⟨cb, 0, none⟩ = some (.slice A n c)
  at_ : ∃ k : Nat, k ≤ n ∧ w.cell? ⟨cb, 1, none⟩ = some (.int .i64 k)
  mix : ∃ h : Int, w.cell? ⟨cb, 2, none⟩ = some (.int .i64 h)
  free : ∀ o, w.frozen? ⟨cb, o, none⟩ = false
  lt : cb < w.heap.size
  small : n ≤ 1048576
  code : ∃ l, RdL octC 1 w cb A n c l
section
variable {w w' : World} {cb n c B lo hi : Nat} {A : Option Addr}
theorem Cur.chg (h : Cur w cb A n c) (hc : Chg lo hi w w') (hl : cb < lo) : Cur w' cb A n c := by
  obtain ⟨h1, ⟨k, h2, h3⟩, ⟨m, h4⟩, h5, h6, h7, l, h8⟩ := h
  exact ⟨(hc.cell h6 (.inl hl)).trans h1, ⟨k, h2, (hc.cell h6 (.inl hl)).trans h3⟩, ⟨m, (hc.cell h6 (.inl hl)).trans h4⟩, fun o => (hc.frozen h6 (.inl hl)).trans (h5 o), Nat.lt_of_lt_of_le h6 hc.size, h7, l,
    h8.keep fun b o hb => hc.cell (by omega) (.inl (by omega))⟩
theorem Cur.below (h : Cur w cb A n c) (hb : Below B w w') (hB : cb < B) (_ : B ≤ w.heap.size) : Cur w' cb A n c :=
  h.chg (lo := B) (hi := w.heap.size) ⟨hb.os, hb.tape, hb.output, hb.size, fun k hk hs => hb.block k (by omega)⟩ hB
theorem Cur.alloc (h : Cur w cb A n c) (o : Obj) : Cur (w.alloc o) cb A n c := h.below ((Below.refl _ _).alloc (Nat.le_refl _) o) h.lt (Nat.le_refl _)
theorem Cur.drew (h : Cur w cb A n c) : Cur w.drew cb A n c := ⟨h.row, h.at_, h.mix, h.free, h.lt, h.small, h.code⟩
theorem Cur.code_of (h : Cur w cb A n c) : ∃ l, RdL octC 1 w cb A n c l := h.code
end
/-- what a draw leaves: a value as told, and the cursor -/
def Drew (cb : Nat) (A : Option Addr) (n c : Nat) (P : Value → Prop) (w : World) (e : Ending) (w' : World) : Prop :=
  ∃ v, e = .returned v ∧ P v ∧ Chg cb (cb + 1) w w' ∧ Cur w' cb A n c
def IsIn (lo hi : Int) (v : Value) : Prop := ∃ x : Int, v = .int .i64 x ∧ lo ≤ x ∧ x ≤ hi
def IsBool (v : Value) : Prop := ∃ b : Bool, v = .bool b

set_option maxRecDepth 100000 in
set_option maxHeartbeats 1000000 in
theorem l1New_any (A : Option Addr) (n c : Nat) (l : List UInt8) (w : World) (hl : RdL octC 1 w w.heap.size A n c l) (hn : n ≤ 1048576) :
    Calls Tryz.prog 30 #[.slice A n c] w fun e w' => e = .returned (.pointer (some ⟨w.heap.size, 0, none⟩)) ∧ Cur w' w.heap.size A n c ∧ Below w.heap.size w w' := by
  have HL := Lib.hid hl
  clear hl
  go_enter Tryz.func30, Tryz.ntmps30
  go_wp2_with fail
  go_loop [3, 4] (fun m i => ∃ (k : Nat) (h : Int), k ≤ n ∧ i = .int .i64 k ∧ m = .int .i64 h ∧ 0 ≤ h ∧ h ≤ 1073741823) (fun _ i => n - (intOf i).toNat)
  case atStart => exact ⟨0, _, by omega, rfl, rfl, by omega, by omega⟩
  case round =>
    obtain ⟨k, h, hk, rfl, rfl, h0, h1⟩ := hrel
    have fin : ∀ m : Int, Cur (w.alloc (.cells #[.slice A n c, .int .i64 0, .int .i64 m] 105)) w.heap.size A n c := fun m =>
      ⟨by simp, ⟨0, Nat.zero_le _, by simp⟩, ⟨m, by simp⟩, fun o => by simp, by simp, hn, l, HL.out.alloc (Nat.le_refl _) _⟩
    by_cases hkn : k < n
    · by_cases h4 : k < 4000
      · obtain ⟨b, off, x, rfl, hb1, hp, c0⟩ := oct_cells HL.out hkn
        have hx := x.toNat_lt
        have hx8 : ((x.toNat : Nat) : Int) < 256 := by omega
        have hx0 : (0 : Int) ≤ ((x.toNat : Nat) : Int) := by omega
        have hm := i64_and30 (h * 131 + x.toNat + 7)
        clear hp hx
        go_wp2
        go_round
        case rel => exact ⟨k + 1, _, by omega, by go_num, rfl, hm.1, hm.2⟩
        case measure => simp [intOf]; omega
      · go_wp2
        go_ret
        exact ⟨rfl, fin h, (by repeat (first | exact Below.refl _ _ | assumption | refine Below.drew ?_ | refine belN ?_ _ | refine Below.alloc ?_ (by first | exact Nat.le_refl _ | (simp; done) | (simp; omega) | omega) _ | refine Below.setCell ?_ (by first | exact Nat.le_refl _ | (simp; done) | (simp; omega) | omega) _ | refine Below.trans ?_ (Below.mono (by assumption) (by first | exact Nat.le_refl _ | (simp; done) | (simp; omega) | omega))))⟩
    · obtain rfl : k = n := by omega
      go_wp2
      go_ret
      exact ⟨rfl, fin h, (by repeat (first | exact Below.refl _ _ | assumption | refine Below.drew ?_ | refine belN ?_ _ | refine Below.alloc ?_ (by first | exact Nat.le_refl _ | (simp; done) | (simp; omega) | omega) _ | refine Below.setCell ?_ (by first | exact Nat.le_refl _ | (simp; done) | (simp; omega) | omega) _ | refine Below.trans ?_ (Below.mono (by assumption) (by first | exact Nat.le_refl _ | (simp; done) | (simp; omega) | omega))))⟩

set_option maxRecDepth 100000 in
set_option maxHeartbeats 1000000 in
theorem l1Byte_any (cb : Nat) (A : Option Addr) (n c : Nat) (w : World) (hc : Cur w cb A n c) :
    Calls Tryz.prog 66 #[.pointer (some ⟨cb, 0, none⟩)] w (Drew cb A n c (IsIn 0 255) w) := by
  obtain ⟨h1, ⟨k, h2, h3⟩, ⟨m, h4⟩, h5, h6, h7, l, h8⟩ := hc
  have HR := Lib.hid h8
  clear h8
  go_enter Tryz.func66, Tryz.ntmps66
  go_upto_region 2 with fail
  generalize hm' : wrap64 (wrap64 (m * 6364136223846793005) + 1442695040888963407) = m'
  obtain ⟨w1, hw1⟩ : ∃ q, q = w.setCell ⟨cb, 2, none⟩ (.int .i64 m') := ⟨_, rfl⟩
  have HC1 : Hid (Chg cb (cb + 1) w w1) := by show Chg _ _ _ _; rw [hw1]; exact Chg.setCell (p := ⟨cb, 2, none⟩) (Chg.refl _ _ w) (Nat.le_refl _) (Nat.lt_succ_self _) _
  have d0 : w1.cell? ⟨cb, 0, none⟩ = some (.slice A n c) := by rw [hw1]; simp [go_sem, h1]
  have d1 : w1.cell? ⟨cb, 1, none⟩ = some (.int .i64 k) := by rw [hw1]; simp [go_sem, h3]
  have d2 : w1.cell? ⟨cb, 2, none⟩ = some (.int .i64 m') := by rw [hw1]; simp [go_sem, h4]
  have df : ∀ o, w1.frozen? ⟨cb, o, none⟩ = false := fun o => by rw [hw1]; simp [go_sem, h5]
  have hlt : cb < w1.heap.size := by have := HC1.out.size; omega
  have HR1 := Lib.hid (HR.out.keep (w' := w1) fun b o hb => HC1.out.cell (by omega) (.inl hb))
  rw [← hw1]
  clear hw1 hm' h1 h3 h4 h5 HR
  have hmk := i64_and_mask
  refine wp_region_below (by kernel_rfl) (by kernel_rfl) ?_
  repeat (first | go_big_quiet_skip | (go_big_quiet_want; go_big_quiet_op; first | go_big_quiet_on | (apply Exists.intro; refine ⟨fun w1 hC => ?_, ?_⟩; (focus (first | rfl | fail | (simp [(bcell hC).1, hlt, d2]; done) | (simp [(bcell hC).1, hlt, d2]; rfl))); go_big_quiet_on)))
  refine wpQuiet_nil ?_
  intro w2 hb2
  obtain ⟨hc2, hf2, hz2⟩ := bcell hb2
  have hx := i64_and_mask (bits .xor .i64 (m' / 8589934592) (m' / 35184372088832))
  clear hmk
  go_upto_region 3 with fail
  generalize bits .and .i64 (bits .xor .i64 (m' / 8589934592) (m' / 35184372088832)) 255 = x1 at *
  obtain ⟨wa, hwa⟩ : ∃ q, q = w2 := ⟨_, rfl⟩
  subst hwa
  have e0 := (hb2.cell (p := ⟨cb, 0, none⟩) hlt).trans d0
  have e1 := (hb2.cell (p := ⟨cb, 1, none⟩) hlt).trans d1
  have e2 := (hb2.cell (p := ⟨cb, 2, none⟩) hlt).trans d2
  have ef : ∀ o, wa.frozen? ⟨cb, o, none⟩ = false := fun o => (hb2.frozen (p := ⟨cb, o, none⟩) hlt).trans (df o)
  have hlta : cb < wa.heap.size := by have := hb2.size; omega
  have HC2 := Lib.hid (HC1.out.below_trans hb2)
  have HR2 := Lib.hid (HR1.out.below hb2 (Nat.le_of_lt hlt))
  clear d0 d1 d2 df hb2 hc2 hf2 hz2 HR1 HC1
  obtain ⟨y0, y1⟩ := hx
  by_cases hkn : k < n
  · have hki : ((k : Nat) : Int) < n := by omega
    have hkb : decide ((k : Int) < (n : Int)) = true := decide_eq_true hki
    obtain ⟨b, off, x, rfl, hb1, hp, c0⟩ := oct_cells HR2.out hkn
    have hx := x.toNat_lt
    have hx8 : ((x.toNat : Nat) : Int) < 256 := by omega
    have hbl : b < wa.heap.size := by omega
    have hmk := i64_and_mask (x1 + x.toNat)
    clear hp hx
    refine wp_region_below (by kernel_rfl) (by kernel_rfl) ?_
    repeat (first | go_big_quiet_skip | (go_big_quiet_want; go_big_quiet_op; first | go_big_quiet_on | (apply Exists.intro; refine ⟨fun w1 hC => ?_, ?_⟩; (focus (first | rfl | fail | (simp [(bcell hC).1, hlta, e0, e1]; done) | (simp [(bcell hC).1, hlta, e0, e1]; rfl))); go_big_quiet_on)))
    refine wpQuiet_nil ?_
    intro w2 hb2
    obtain ⟨hc2, hf2, hz2⟩ := bcell hb2
    go_upto_region 4 with fail
    obtain ⟨wb, hwb⟩ : ∃ q, q = w2 := ⟨_, rfl⟩
    subst hwb
    have g0 := (hb2.cell (p := ⟨cb, 0, none⟩) hlta).trans e0
    have g1 := (hb2.cell (p := ⟨cb, 1, none⟩) hlta).trans e1
    have g2 := (hb2.cell (p := ⟨cb, 2, none⟩) hlta).trans e2
    have gc := (hb2.cell (p := ⟨b, off + k, none⟩) hbl).trans c0
    have gf : ∀ o, wb.frozen? ⟨cb, o, none⟩ = false := fun o => (hb2.frozen (p := ⟨cb, o, none⟩) hlta).trans (ef o)
    have hltb : cb < wb.heap.size := by have := hb2.size; omega
    have hblb : b < wb.heap.size := by have := hb2.size; omega
    have HC3 := Lib.hid (HC2.out.below_trans hb2)
    have HR3 := Lib.hid (HR2.out.below hb2 (Nat.le_of_lt hlta))
    clear e0 e1 e2 ef c0 hb2 hc2 hf2 hz2 HR2 HC2
    refine wp_region_below (by kernel_rfl) (by kernel_rfl) ?_
    repeat (first | go_big_quiet_skip | (go_big_quiet_want; go_big_quiet_op; first | go_big_quiet_on | (apply Exists.intro; refine ⟨fun w1 hC => ?_, ?_⟩; (focus (first | rfl | fail | (simp [(bcell hC).1, hltb, hblb, g0, g1, gc]; done) | (simp [(bcell hC).1, hltb, hblb, g0, g1, gc]; rfl))); go_big_quiet_on)))
    refine wpQuiet_nil ?_
    intro w2 hb2
    obtain ⟨hc2, hf2, hz2⟩ := bcell hb2
    have k0 := (hb2.cell (p := ⟨cb, 0, none⟩) hltb).trans g0
    have k1 := (hb2.cell (p := ⟨cb, 1, none⟩) hltb).trans g1
    have k2 := (hb2.cell (p := ⟨cb, 2, none⟩) hltb).trans g2
    have kf : ∀ o, w2.frozen? ⟨cb, o, none⟩ = false := fun o => (hb2.frozen (p := ⟨cb, o, none⟩) hltb).trans (gf o)
    have HC4 := Lib.hid (HC3.out.below_trans hb2)
    have HR4 := Lib.hid (HR3.out.below hb2 (Nat.le_of_lt hltb))
    have hlt2 : cb < w2.heap.size := by have := hb2.size; omega
    clear g0 g1 g2 gc gf hb2 hc2 hf2 hz2 HR3 HC3
    go_wp2_with fail
    go_ret
    refine ⟨_, rfl, ⟨_, rfl, hmk.1, hmk.2⟩, HC4.out.setCell (Nat.le_refl _) (Nat.lt_succ_self _) _, ?_⟩
    exact ⟨by simp [go_sem, k0], ⟨k + 1, by omega, by simp [go_sem, k1]⟩, ⟨m', by simp [go_sem, k2]⟩, fun o => by simp [go_sem, kf], by simpa using hlt2, h7, l, HR4.out.keep fun b o hb => by first | (simp [go_sem]; done) | (simp [go_sem]; omega)⟩
  · have hki : ¬ ((k : Nat) : Int) < n := by omega
    have hkb : decide ((k : Int) < (n : Int)) = false := decide_eq_false hki
    refine wp_region_below (by kernel_rfl) (by kernel_rfl) ?_
    repeat (first | go_big_quiet_skip | (go_big_quiet_want; go_big_quiet_op; first | go_big_quiet_on | (apply Exists.intro; refine ⟨fun w1 hC => ?_, ?_⟩; (focus (first | rfl | fail | (simp [(bcell hC).1, hlta, e0, e1]; done) | (simp [(bcell hC).1, hlta, e0, e1]; rfl))); go_big_quiet_on)))
    refine wpQuiet_nil ?_
    intro w2 hb2
    obtain ⟨hc2, hf2, hz2⟩ := bcell hb2
    have HC3 := Lib.hid (HC2.out.below_trans hb2)
    have HU : Hid (Cur w2 cb A n c) := by
      have HW : Cur wa cb A n c := ⟨e0, ⟨k, h2, e1⟩, ⟨m', e2⟩, ef, hlta, h7, l, HR2.out⟩
      exact HW.below hb2 hlta (Nat.le_refl _)
    clear hb2 hc2 hf2 hz2
    go_wp2_with fail
    go_ret
    exact ⟨_, rfl, ⟨_, rfl, y0, y1⟩, HC3.out, HU.out⟩

set_option maxRecDepth 100000 in
set_option maxHeartbeats 1000000 in
theorem l1Below_any (cb : Nat) (A : Option Addr) (n c : Nat) (m : Int) (w : World) (hc : Cur w cb A n c) (hm : m ≤ 4294967296) :
    Calls Tryz.prog 34 #[.pointer (some ⟨cb, 0, none⟩), .int .i64 m] w (Drew cb A n c (fun v => IsIn 0 (if 0 < m then m - 1 else 0) v) w) := by
  have HC := Lib.hid hc
  clear hc
  by_cases h0 : m ≤ 0
  · go_enter Tryz.func34, Tryz.ntmps34
    go_wp2_with fail
    go_ret
    exact ⟨_, rfl, ⟨0, rfl, by omega, by first | omega | (split <;> omega)⟩, Chg.refl _ _ _, HC.out⟩
  have E : Hid ((if 0 < m then m - 1 else 0) = m - 1) := Lib.hid (if_pos (by omega))
  have hm0 : m ≠ 0 := by omega
  by_cases h256 : m ≤ 256
  · go_enter Tryz.func34, Tryz.ntmps34
    go_wp2_with fail
    refine (l1Byte_any cb A n c _ HC.out).mono ?_
    rintro e w1 ⟨v, rfl, ⟨x, rfl, x0, x1⟩, hg, hu⟩
    have HG := Lib.hid hg
    have HU := Lib.hid hu
    clear hg hu
    have h1 : 0 ≤ x % m := Int.emod_nonneg _ hm0
    have h2 : x % m < m := Int.emod_lt_of_pos _ (by omega)
    go_wp2_with fail
    go_ret
    refine ⟨_, rfl, ⟨_, rfl, ?_, ?_⟩, HG.out, HU.out⟩
    · first | exact h1 | (rw [Int.tmod_eq_emod_of_nonneg x0]; exact h1)
    · (try rw [E.out]); first | omega | (rw [Int.tmod_eq_emod_of_nonneg x0]; omega)
  · go_enter Tryz.func34, Tryz.ntmps34
    go_wp2_with fail
    refine (l1Byte_any cb A n c _ HC.out).mono ?_
    rintro e w1 ⟨v, rfl, ⟨x, rfl, x0, x1⟩, hg, hu⟩
    have HG1 := Lib.hid hg
    have HU1 := Lib.hid hu
    clear hg hu
    go_wp2_with fail
    refine (l1Byte_any cb A n c _ HU1.out).mono ?_
    rintro e w2 ⟨v, rfl, ⟨y, rfl, y0, y1⟩, hg, hu⟩
    have HG2 := Lib.hid (HG1.out.trans hg)
    have HU2 := Lib.hid hu
    clear hg hu
    go_wp2_with fail
    refine (l1Byte_any cb A n c _ HU2.out).mono ?_
    rintro e w3 ⟨v, rfl, ⟨z, rfl, z0, z1⟩, hg, hu⟩
    have HG3 := Lib.hid (HG2.out.trans hg)
    have HU3 := Lib.hid hu
    clear hg hu
    go_wp2_with fail
    refine (l1Byte_any cb A n c _ HU3.out).mono ?_
    rintro e w4 ⟨v, rfl, ⟨u, rfl, u0, u1⟩, hg, hu⟩
    have HG4 := Lib.hid (HG3.out.trans hg)
    have HU4 := Lib.hid hu
    clear hg hu
    have hs0 : 0 ≤ x * 16777216 + y * 65536 + z * 256 + u := by omega
    have h1 : 0 ≤ (x * 16777216 + y * 65536 + z * 256 + u) % m := Int.emod_nonneg _ hm0
    have h2 : (x * 16777216 + y * 65536 + z * 256 + u) % m < m := Int.emod_lt_of_pos _ (by omega)
    go_wp2_with fail
    go_ret
    refine ⟨_, rfl, ⟨_, rfl, ?_, ?_⟩, HG4.out, HU4.out⟩
    · first | exact h1 | (rw [Int.tmod_eq_emod_of_nonneg hs0]; exact h1)
    · (try rw [E.out]); first | omega | (rw [Int.tmod_eq_emod_of_nonneg hs0]; omega)
theorem l1Once_any (cb : Nat) (A : Option Addr) (n c : Nat) (m : Int) (w : World) (hc : Cur w cb A n c) (hm : m ≤ 4294967296) :
    Calls Tryz.prog 35 #[.pointer (some ⟨cb, 0, none⟩), .int .i64 m] w (Drew cb A n c IsBool w) := by
  have HC := Lib.hid hc
  clear hc
  go_enter Tryz.func35, Tryz.ntmps35
  go_wp2_with fail
  refine (l1Below_any cb A n c m _ HC.out hm).mono ?_
  rintro e w1 ⟨v, rfl, ⟨x, rfl, x0, x1⟩, hg, hu⟩
  have HG := Lib.hid hg
  have HU := Lib.hid hu
  clear hg hu x1
  go_wp2_with fail
  go_ret
  exact ⟨_, rfl, ⟨_, rfl⟩, HG.out, HU.out⟩
theorem l1PickInt_any (cb : Nat) (A : Option Addr) (n c : Nat) (g m : Nat) (lo hi : Int) (w : World) (hc : Cur w cb A n c) (hm : 0 < m) (hm2 : m ≤ 1048576) (hg : cb < g) (hgs : g < w.heap.size)
    (hx : ∀ j, j < m → ∃ x : Int, w.cell? ⟨g, j, none⟩ = some (.int .i64 x) ∧ lo ≤ x ∧ x ≤ hi) :
    Calls Tryz.prog 62 #[.pointer (some ⟨cb, 0, none⟩), .slice (some ⟨g, 0, none⟩) m m] w (Drew cb A n c (IsIn lo hi) w) := by
  have HC := Lib.hid hc
  have HX := Lib.hid hx
  clear hc hx
  go_enter Tryz.func62, Tryz.ntmps62
  go_wp2_with fail
  refine (l1Below_any cb A n c m _ HC.out (by omega)).mono ?_
  rw [if_pos (show (0 : Int) < m by omega)]
  rintro e w1 ⟨v, rfl, ⟨x, rfl, x0, x1⟩, hg1, hu⟩
  obtain ⟨j, rfl⟩ := Int.eq_ofNat_of_zero_le x0
  obtain ⟨y, hy, y0, y1⟩ := HX.out j (by omega)
  have hz : w1.cell? ⟨g, j, none⟩ = some (.int .i64 y) := (hg1.cell hgs (.inr hg)).trans hy
  have hjm : j < m := by omega
  have HG := Lib.hid hg1
  have HU := Lib.hid hu
  clear hg1 hu hy
  go_wp2_with fail
  go_ret
  exact ⟨_, rfl, ⟨_, rfl, y0, y1⟩, HG.out, HU.out⟩
end Go.Proofs.YtelnnegfkdfpiaaGreatDoor
