/- Draw, DrawNode, DrawSize: joined into one text. -/
import Derived.Laws.BitsLemmas
import Derived.Deep.DeepMust
import Derived.Deep.RegionWith
import Derived.Deep.DeepCutAuto
import Derived.WalkKit
import Derived.WalkSpells
import Derived.WalkLawsBesides
import Derived.Lib.Hide
import Derived.Test.YtjgaelnonacdkaaG03
import Derived.Test.YtjgaelnonacdkaaC
namespace Go.Proofs.Ytjgaelnonacdkaa
open Go.RowKit

def octC (x : UInt8) : List Value := [.int .u8 (x.toNat : Int)]
theorem octC_len (x : UInt8) : (octC x).length = 1 := rfl
theorem oct_cells {w : World} {B : Nat} {A : Option Addr} {n c : Nat} {l : List UInt8} (h : RdL octC 1 w B A n c l) {k : Nat} (hk : k < n) :
    ∃ b off x, A = some ⟨b, off, none⟩ ∧ b < B ∧ l[k]? = some x ∧ w.cell? ⟨b, off + k, none⟩ = some (.int .u8 (x.toNat : Int)) := by
  obtain ⟨b, off, p, e, hb, hp, hc⟩ := h.at_ octC_len hk
  exact ⟨b, off, p, e, hb, hp, by have := hc 0 (by omega); simpa [octC] using this⟩

theorem low_i64 (n : Int) (h₀ : 0 ≤ n) (h₁ : n < 2 ^ 63) : IntKind.i64.wrap n = n := by rw [IntKind.wrap_i64]; omega
set_option maxRecDepth 100000 in
theorem i64_and_mask (x : Int) : 0 ≤ bits .and .i64 x 255 ∧ bits .and .i64 x 255 ≤ 255 := by
  have h1 : ((BitVec.ofInt 64 x &&& BitVec.ofInt 64 255).toNat) ≤ 255 := by
    rw [BitVec.toNat_and]
    exact Nat.and_le_right
  have e : bits .and .i64 x 255 = (((BitVec.ofInt 64 x &&& BitVec.ofInt 64 255).toNat : Nat) : Int) := by
    unfold bits
    exact low_i64 _ (Int.natCast_nonneg _) (by
      have : (2 : Int) ^ 63 = 9223372036854775808 := by decide
      have h2 : (((BitVec.ofInt 64 x &&& BitVec.ofInt 64 255).toNat : Nat) : Int) ≤ 255 := by omega
      show (((BitVec.ofInt 64 x &&& BitVec.ofInt 64 255).toNat : Nat) : Int) < _
      omega)
  rw [e]
  omega
set_option maxRecDepth 100000 in
theorem i64_and30 (x : Int) : 0 ≤ bits .and .i64 x 1073741823 ∧ bits .and .i64 x 1073741823 ≤ 1073741823 := by
  have h1 : ((BitVec.ofInt 64 x &&& BitVec.ofInt 64 1073741823).toNat) ≤ 1073741823 := by
    rw [BitVec.toNat_and]
    exact Nat.and_le_right
  have e : bits .and .i64 x 1073741823 = (((BitVec.ofInt 64 x &&& BitVec.ofInt 64 1073741823).toNat : Nat) : Int) := by
    unfold bits
    exact low_i64 _ (Int.natCast_nonneg _) (by
      have : (2 : Int) ^ 63 = 9223372036854775808 := by decide
      have h2 : (((BitVec.ofInt 64 x &&& BitVec.ofInt 64 1073741823).toNat : Nat) : Int) ≤ 1073741823 := by omega
      show (((BitVec.ofInt 64 x &&& BitVec.ofInt 64 1073741823).toNat : Nat) : Int) < _
      omega)
  rw [e]
  omega

/-- a cursor over a code -/
structure Cur (w : World) (cb : Nat) (A : Option Addr) (n c : Nat) : Prop where
  row : w.cell? ⟨cb, 0, none⟩ = some (.slice A n c)
  at_ : ∃ k : Nat, k ≤ n ∧ w.cell? ⟨cb, 1, none⟩ = some (.int .i64 k)
  mix : ∃ h : Int, w.cell? ⟨cb, 2, none⟩ = some (.int .i64 h)
  free : ∀ o, w.frozen? ⟨cb, o, none⟩ = false
  lt : cb < w.heap.size
  small : n ≤ 1048576
  code : ∃ l, RdL octC 1 w cb A n c l
section
variable {w w' : World} {cb n c B lo hi : Nat} {A : Option Addr}
theorem Cur.chg (h : Cur w cb A n c) (hc : Chg lo hi w w') (hl : cb < lo) : Cur w' cb A n c := by
  obtain ⟨h1, ⟨k, h2, h3⟩, ⟨m, h4⟩, h5, h6, h7, l, h8⟩ := h
  exact ⟨(hc.cell h6 (.inl hl)).trans h1, ⟨k, h2, (hc.cell h6 (.inl hl)).trans h3⟩, ⟨m, (hc.cell h6 (.inl hl)).trans h4⟩, fun o => (hc.frozen h6 (.inl hl)).trans (h5 o), Nat.lt_of_lt_of_le h6 hc.size, h7, l,
    h8.keep fun b o hb => hc.cell (by omega) (.inl (by omega))⟩
theorem Cur.below (h : Cur w cb A n c) (hb : Below B w w') (hB : cb < B) (_ : B ≤ w.heap.size) : Cur w' cb A n c :=
  h.chg (lo := B) (hi := w.heap.size) ⟨hb.os, hb.tape, hb.output, hb.size, fun k hk hs => hb.block k (by omega)⟩ hB
theorem Cur.alloc (h : Cur w cb A n c) (o : Obj) : Cur (w.alloc o) cb A n c := h.below ((Below.refl _ _).alloc (Nat.le_refl _) o) h.lt (Nat.le_refl _)
theorem Cur.drew (h : Cur w cb A n c) : Cur w.drew cb A n c := ⟨h.row, h.at_, h.mix, h.free, h.lt, h.small, h.code⟩
theorem Cur.code_of (h : Cur w cb A n c) : ∃ l, RdL octC 1 w cb A n c l := h.code
end
/-- what a draw leaves: a value as told, and the cursor -/
def Drew (cb : Nat) (A : Option Addr) (n c : Nat) (P : Value → Prop) (w : World) (e : Ending) (w' : World) : Prop :=
  ∃ v, e = .returned v ∧ P v ∧ Chg cb (cb + 1) w w' ∧ Cur w' cb A n c
def IsIn (lo hi : Int) (v : Value) : Prop := ∃ x : Int, v = .int .i64 x ∧ lo ≤ x ∧ x ≤ hi
def IsBool (v : Value) : Prop := ∃ b : Bool, v = .bool b

set_option maxRecDepth 100000 in
set_option maxHeartbeats 1000000 in
theorem l1New_any (A : Option Addr) (n c : Nat) (l : List UInt8) (w : World) (hl : RdL octC 1 w w.heap.size A n c l) (hn : n ≤ 1048576) :
    Calls Try.prog 50 #[.slice A n c] w fun e w' => e = .returned (.pointer (some ⟨w.heap.size, 0, none⟩)) ∧ Cur w' w.heap.size A n c ∧ Below w.heap.size w w' := by
  have HL := Lib.hid hl
  clear hl
  go_enter Try.func50, Try.ntmps50
  go_wp2_with fail
  go_loop [3, 4] (fun m i => ∃ (k : Nat) (h : Int), k ≤ n ∧ i = .int .i64 k ∧ m = .int .i64 h ∧ 0 ≤ h ∧ h ≤ 1073741823) (fun _ i => n - (intOf i).toNat)
  case atStart => exact ⟨0, _, by omega, rfl, rfl, by omega, by omega⟩
  case round =>
    obtain ⟨k, h, hk, rfl, rfl, h0, h1⟩ := hrel
    have fin : ∀ m : Int, Cur (w.alloc (.cells #[.slice A n c, .int .i64 0, .int .i64 m] 107)) w.heap.size A n c := fun m =>
      ⟨by simp, ⟨0, Nat.zero_le _, by simp⟩, ⟨m, by simp⟩, fun o => by simp, by simp, hn, l, HL.out.alloc (Nat.le_refl _) _⟩
    by_cases hkn : k < n
    · by_cases h4 : k < 4000
      · obtain ⟨b, off, x, rfl, hb1, hp, c0⟩ := oct_cells HL.out hkn
        have hx := x.toNat_lt
        have hx8 : ((x.toNat : Nat) : Int) < 256 := by omega
        have hx0 : (0 : Int) ≤ ((x.toNat : Nat) : Int) := by omega
        have hm := i64_and30 (h * 131 + x.toNat + 7)
        clear hp hx
        go_wp2
        go_round
        case rel => exact ⟨k + 1, _, by omega, by go_num, rfl, hm.1, hm.2⟩
        case measure => simp [intOf]; omega
      · go_wp2
        go_ret
        exact ⟨rfl, fin h, (by repeat (first | exact Below.refl _ _ | assumption | refine Below.drew ?_ | refine belN ?_ _ | refine Below.alloc ?_ (by first | exact Nat.le_refl _ | (simp; done) | (simp; omega) | omega) _ | refine Below.setCell ?_ (by first | exact Nat.le_refl _ | (simp; done) | (simp; omega) | omega) _ | refine Below.trans ?_ (Below.mono (by assumption) (by first | exact Nat.le_refl _ | (simp; done) | (simp; omega) | omega))))⟩
    · obtain rfl : k = n := by omega
      go_wp2
      go_ret
      exact ⟨rfl, fin h, (by repeat (first | exact Below.refl _ _ | assumption | refine Below.drew ?_ | refine belN ?_ _ | refine Below.alloc ?_ (by first | exact Nat.le_refl _ | (simp; done) | (simp; omega) | omega) _ | refine Below.setCell ?_ (by first | exact Nat.le_refl _ | (simp; done) | (simp; omega) | omega) _ | refine Below.trans ?_ (Below.mono (by assumption) (by first | exact Nat.le_refl _ | (simp; done) | (simp; omega) | omega))))⟩

set_option maxRecDepth 100000 in
set_option maxHeartbeats 1000000 in
theorem l1Byte_any (cb : Nat) (A : Option Addr) (n c : Nat) (w : World) (hc : Cur w cb A n c) :
    Calls Try.prog 89 #[.pointer (some ⟨cb, 0, none⟩)] w (Drew cb A n c (IsIn 0 255) w) := by
  obtain ⟨h1, ⟨k, h2, h3⟩, ⟨m, h4⟩, h5, h6, h7, l, h8⟩ := hc
  have HR := Lib.hid h8
  clear h8
  go_enter Try.func89, Try.ntmps89
  go_upto_region 2 with fail
  generalize hm' : wrap64 (wrap64 (m * 6364136223846793005) + 1442695040888963407) = m'
  obtain ⟨w1, hw1⟩ : ∃ q, q = w.setCell ⟨cb, 2, none⟩ (.int .i64 m') := ⟨_, rfl⟩
  have HC1 : Hid (Chg cb (cb + 1) w w1) := by show Chg _ _ _ _; rw [hw1]; exact Chg.setCell (p := ⟨cb, 2, none⟩) (Chg.refl _ _ w) (Nat.le_refl _) (Nat.lt_succ_self _) _
  have d0 : w1.cell? ⟨cb, 0, none⟩ = some (.slice A n c) := by rw [hw1]; simp [go_sem, h1]
  have d1 : w1.cell? ⟨cb, 1, none⟩ = some (.int .i64 k) := by rw [hw1]; simp [go_sem, h3]
  have d2 : w1.cell? ⟨cb, 2, none⟩ = some (.int .i64 m') := by rw [hw1]; simp [go_sem, h4]
  have df : ∀ o, w1.frozen? ⟨cb, o, none⟩ = false := fun o => by rw [hw1]; simp [go_sem, h5]
  have hlt : cb < w1.heap.size := by have := HC1.out.size; omega
  have HR1 := Lib.hid (HR.out.keep (w' := w1) fun b o hb => HC1.out.cell (by omega) (.inl hb))
  rw [← hw1]
  clear hw1 hm' h1 h3 h4 h5 HR
  have hmk := i64_and_mask
  refine wp_region_below (by kernel_rfl) (by kernel_rfl) ?_
  repeat (first | go_big_quiet_skip | (go_big_quiet_want; go_big_quiet_op; first | go_big_quiet_on | (apply Exists.intro; refine ⟨fun w1 hC => ?_, ?_⟩; (focus (first | rfl | fail | (simp [(bcell hC).1, hlt, d2]; done) | (simp [(bcell hC).1, hlt, d2]; rfl))); go_big_quiet_on)))
  refine wpQuiet_nil ?_
  intro w2 hb2
  obtain ⟨hc2, hf2, hz2⟩ := bcell hb2
  have hx := i64_and_mask (bits .xor .i64 (m' / 8589934592) (m' / 35184372088832))
  clear hmk
  go_upto_region 3 with fail
  generalize bits .and .i64 (bits .xor .i64 (m' / 8589934592) (m' / 35184372088832)) 255 = x1 at *
  obtain ⟨wa, hwa⟩ : ∃ q, q = w2 := ⟨_, rfl⟩
  subst hwa
  have e0 := (hb2.cell (p := ⟨cb, 0, none⟩) hlt).trans d0
  have e1 := (hb2.cell (p := ⟨cb, 1, none⟩) hlt).trans d1
  have e2 := (hb2.cell (p := ⟨cb, 2, none⟩) hlt).trans d2
  have ef : ∀ o, wa.frozen? ⟨cb, o, none⟩ = false := fun o => (hb2.frozen (p := ⟨cb, o, none⟩) hlt).trans (df o)
  have hlta : cb < wa.heap.size := by have := hb2.size; omega
  have HC2 := Lib.hid (HC1.out.below_trans hb2)
  have HR2 := Lib.hid (HR1.out.below hb2 (Nat.le_of_lt hlt))
  clear d0 d1 d2 df hb2 hc2 hf2 hz2 HR1 HC1
  obtain ⟨y0, y1⟩ := hx
  by_cases hkn : k < n
  · have hki : ((k : Nat) : Int) < n := by omega
    have hkb : decide ((k : Int) < (n : Int)) = true := decide_eq_true hki
    obtain ⟨b, off, x, rfl, hb1, hp, c0⟩ := oct_cells HR2.out hkn
    have hx := x.toNat_lt
    have hx8 : ((x.toNat : Nat) : Int) < 256 := by omega
    have hbl : b < wa.heap.size := by omega
    have hmk := i64_and_mask (x1 + x.toNat)
    clear hp hx
    refine wp_region_below (by kernel_rfl) (by kernel_rfl) ?_
    repeat (first | go_big_quiet_skip | (go_big_quiet_want; go_big_quiet_op; first | go_big_quiet_on | (apply Exists.intro; refine ⟨fun w1 hC => ?_, ?_⟩; (focus (first | rfl | fail | (simp [(bcell hC).1, hlta, e0, e1]; done) | (simp [(bcell hC).1, hlta, e0, e1]; rfl))); go_big_quiet_on)))
    refine wpQuiet_nil ?_
    intro w2 hb2
    obtain ⟨hc2, hf2, hz2⟩ := bcell hb2
    go_upto_region 4 with fail
    obtain ⟨wb, hwb⟩ : ∃ q, q = w2 := ⟨_, rfl⟩
    subst hwb
    have g0 := (hb2.cell (p := ⟨cb, 0, none⟩) hlta).trans e0
    have g1 := (hb2.cell (p := ⟨cb, 1, none⟩) hlta).trans e1
    have g2 := (hb2.cell (p := ⟨cb, 2, none⟩) hlta).trans e2
    have gc := (hb2.cell (p := ⟨b, off + k, none⟩) hbl).trans c0
    have gf : ∀ o, wb.frozen? ⟨cb, o, none⟩ = false := fun o => (hb2.frozen (p := ⟨cb, o, none⟩) hlta).trans (ef o)
    have hltb : cb < wb.heap.size := by have := hb2.size; omega
    have hblb : b < wb.heap.size := by have := hb2.size; omega
    have HC3 := Lib.hid (HC2.out.below_trans hb2)
    have HR3 := Lib.hid (HR2.out.below hb2 (Nat.le_of_lt hlta))
    clear e0 e1 e2 ef c0 hb2 hc2 hf2 hz2 HR2 HC2
    refine wp_region_below (by kernel_rfl) (by kernel_rfl) ?_
    repeat (first | go_big_quiet_skip | (go_big_quiet_want; go_big_quiet_op; first | go_big_quiet_on | (apply Exists.intro; refine ⟨fun w1 hC => ?_, ?_⟩; (focus (first | rfl | fail | (simp [(bcell hC).1, hltb, hblb, g0, g1, gc]; done) | (simp [(bcell hC).1, hltb, hblb, g0, g1, gc]; rfl))); go_big_quiet_on)))
    refine wpQuiet_nil ?_
    intro w2 hb2
    obtain ⟨hc2, hf2, hz2⟩ := bcell hb2
    have k0 := (hb2.cell (p := ⟨cb, 0, none⟩) hltb).trans g0
    have k1 := (hb2.cell (p := ⟨cb, 1, none⟩) hltb).trans g1
    have k2 := (hb2.cell (p := ⟨cb, 2, none⟩) hltb).trans g2
    have kf : ∀ o, w2.frozen? ⟨cb, o, none⟩ = false := fun o => (hb2.frozen (p := ⟨cb, o, none⟩) hltb).trans (gf o)
    have HC4 := Lib.hid (HC3.out.below_trans hb2)
    have HR4 := Lib.hid (HR3.out.below hb2 (Nat.le_of_lt hltb))
    have hlt2 : cb < w2.heap.size := by have := hb2.size; omega
    clear g0 g1 g2 gc gf hb2 hc2 hf2 hz2 HR3 HC3
    go_wp2_with fail
    go_ret
    refine ⟨_, rfl, ⟨_, rfl, hmk.1, hmk.2⟩, HC4.out.setCell (Nat.le_refl _) (Nat.lt_succ_self _) _, ?_⟩
    exact ⟨by simp [go_sem, k0], ⟨k + 1, by omega, by simp [go_sem, k1]⟩, ⟨m', by simp [go_sem, k2]⟩, fun o => by simp [go_sem, kf], by simpa using hlt2, h7, l, HR4.out.keep fun b o hb => by first | (simp [go_sem]; done) | (simp [go_sem]; omega)⟩
  · have hki : ¬ ((k : Nat) : Int) < n := by omega
    have hkb : decide ((k : Int) < (n : Int)) = false := decide_eq_false hki
    refine wp_region_below (by kernel_rfl) (by kernel_rfl) ?_
    repeat (first | go_big_quiet_skip | (go_big_quiet_want; go_big_quiet_op; first | go_big_quiet_on | (apply Exists.intro; refine ⟨fun w1 hC => ?_, ?_⟩; (focus (first | rfl | fail | (simp [(bcell hC).1, hlta, e0, e1]; done) | (simp [(bcell hC).1, hlta, e0, e1]; rfl))); go_big_quiet_on)))
    refine wpQuiet_nil ?_
    intro w2 hb2
    obtain ⟨hc2, hf2, hz2⟩ := bcell hb2
    have HC3 := Lib.hid (HC2.out.below_trans hb2)
    have HU : Hid (Cur w2 cb A n c) := by
      have HW : Cur wa cb A n c := ⟨e0, ⟨k, h2, e1⟩, ⟨m', e2⟩, ef, hlta, h7, l, HR2.out⟩
      exact HW.below hb2 hlta (Nat.le_refl _)
    clear hb2 hc2 hf2 hz2
    go_wp2_with fail
    go_ret
    exact ⟨_, rfl, ⟨_, rfl, y0, y1⟩, HC3.out, HU.out⟩

set_option maxRecDepth 100000 in
set_option maxHeartbeats 1000000 in
theorem l1Below_any (cb : Nat) (A : Option Addr) (n c : Nat) (m : Int) (w : World) (hc : Cur w cb A n c) (hm : m ≤ 4294967296) :
    Calls Try.prog 59 #[.pointer (some ⟨cb, 0, none⟩), .int .i64 m] w (Drew cb A n c (fun v => IsIn 0 (if 0 < m then m - 1 else 0) v) w) := by
  have HC := Lib.hid hc
  clear hc
  by_cases h0 : m ≤ 0
  · go_enter Try.func59, Try.ntmps59
    go_wp2_with fail
    go_ret
    exact ⟨_, rfl, ⟨0, rfl, by omega, by first | omega | (split <;> omega)⟩, Chg.refl _ _ _, HC.out⟩
  have E : Hid ((if 0 < m then m - 1 else 0) = m - 1) := Lib.hid (if_pos (by omega))
  have hm0 : m ≠ 0 := by omega
  by_cases h256 : m ≤ 256
  · go_enter Try.func59, Try.ntmps59
    go_wp2_with fail
    refine (l1Byte_any cb A n c _ HC.out).mono ?_
    rintro e w1 ⟨v, rfl, ⟨x, rfl, x0, x1⟩, hg, hu⟩
    have HG := Lib.hid hg
    have HU := Lib.hid hu
    clear hg hu
    have h1 : 0 ≤ x % m := Int.emod_nonneg _ hm0
    have h2 : x % m < m := Int.emod_lt_of_pos _ (by omega)
    go_wp2_with fail
    go_ret
    refine ⟨_, rfl, ⟨_, rfl, ?_, ?_⟩, HG.out, HU.out⟩
    · first | exact h1 | (rw [Int.tmod_eq_emod_of_nonneg x0]; exact h1)
    · (try rw [E.out]); first | omega | (rw [Int.tmod_eq_emod_of_nonneg x0]; omega)
  · go_enter Try.func59, Try.ntmps59
    go_wp2_with fail
    refine (l1Byte_any cb A n c _ HC.out).mono ?_
    rintro e w1 ⟨v, rfl, ⟨x, rfl, x0, x1⟩, hg, hu⟩
    have HG1 := Lib.hid hg
    have HU1 := Lib.hid hu
    clear hg hu
    go_wp2_with fail
    refine (l1Byte_any cb A n c _ HU1.out).mono ?_
    rintro e w2 ⟨v, rfl, ⟨y, rfl, y0, y1⟩, hg, hu⟩
    have HG2 := Lib.hid (HG1.out.trans hg)
    have HU2 := Lib.hid hu
    clear hg hu
    go_wp2_with fail
    refine (l1Byte_any cb A n c _ HU2.out).mono ?_
    rintro e w3 ⟨v, rfl, ⟨z, rfl, z0, z1⟩, hg, hu⟩
    have HG3 := Lib.hid (HG2.out.trans hg)
    have HU3 := Lib.hid hu
    clear hg hu
    go_wp2_with fail
    refine (l1Byte_any cb A n c _ HU3.out).mono ?_
    rintro e w4 ⟨v, rfl, ⟨u, rfl, u0, u1⟩, hg, hu⟩
    have HG4 := Lib.hid (HG3.out.trans hg)
    have HU4 := Lib.hid hu
    clear hg hu
    have hs0 : 0 ≤ x * 16777216 + y * 65536 + z * 256 + u := by omega
    have h1 : 0 ≤ (x * 16777216 + y * 65536 + z * 256 + u) % m := Int.emod_nonneg _ hm0
    have h2 : (x * 16777216 + y * 65536 + z * 256 + u) % m < m := Int.emod_lt_of_pos _ (by omega)
    go_wp2_with fail
    go_ret
    refine ⟨_, rfl, ⟨_, rfl, ?_, ?_⟩, HG4.out, HU4.out⟩
    · first | exact h1 | (rw [Int.tmod_eq_emod_of_nonneg hs0]; exact h1)
    · (try rw [E.out]); first | omega | (rw [Int.tmod_eq_emod_of_nonneg hs0]; omega)
theorem l1Once_any (cb : Nat) (A : Option Addr) (n c : Nat) (m : Int) (w : World) (hc : Cur w cb A n c) (hm : m ≤ 4294967296) :
    Calls Try.prog 58 #[.pointer (some ⟨cb, 0, none⟩), .int .i64 m] w (Drew cb A n c IsBool w) := by
  have HC := Lib.hid hc
  clear hc
  go_enter Try.func58, Try.ntmps58
  go_wp2_with fail
  refine (l1Below_any cb A n c m _ HC.out hm).mono ?_
  rintro e w1 ⟨v, rfl, ⟨x, rfl, x0, x1⟩, hg, hu⟩
  have HG := Lib.hid hg
  have HU := Lib.hid hu
  clear hg hu x1
  go_wp2_with fail
  go_ret
  exact ⟨_, rfl, ⟨_, rfl⟩, HG.out, HU.out⟩
theorem l1PickInt_any (cb : Nat) (A : Option Addr) (n c : Nat) (g m : Nat) (lo hi : Int) (w : World) (hc : Cur w cb A n c) (hm : 0 < m) (hm2 : m ≤ 1048576) (hg : cb < g) (hgs : g < w.heap.size)
    (hx : ∀ j, j < m → ∃ x : Int, w.cell? ⟨g, j, none⟩ = some (.int .i64 x) ∧ lo ≤ x ∧ x ≤ hi) :
    Calls Try.prog 88 #[.pointer (some ⟨cb, 0, none⟩), .slice (some ⟨g, 0, none⟩) m m] w (Drew cb A n c (IsIn lo hi) w) := by
  have HC := Lib.hid hc
  have HX := Lib.hid hx
  clear hc hx
  go_enter Try.func88, Try.ntmps88
  go_wp2_with fail
  refine (l1Below_any cb A n c m _ HC.out (by omega)).mono ?_
  rw [if_pos (show (0 : Int) < m by omega)]
  rintro e w1 ⟨v, rfl, ⟨x, rfl, x0, x1⟩, hg1, hu⟩
  obtain ⟨j, rfl⟩ := Int.eq_ofNat_of_zero_le x0
  obtain ⟨y, hy, y0, y1⟩ := HX.out j (by omega)
  have hz : w1.cell? ⟨g, j, none⟩ = some (.int .i64 y) := (hg1.cell hgs (.inr hg)).trans hy
  have hjm : j < m := by omega
  have HG := Lib.hid hg1
  have HU := Lib.hid hu
  clear hg1 hu hy
  go_wp2_with fail
  go_ret
  exact ⟨_, rfl, ⟨_, rfl, y0, y1⟩, HG.out, HU.out⟩
end Go.Proofs.Ytjgaelnonacdkaa
namespace Go.Proofs.Ytjgaelnonacdkaa
open Go.RowKit

def IsMsg (v : Value) : Prop := ∃ k r q p f : Int, v = .agg #[.int .i64 k, .int .i64 r, .int .i64 q, .int .i64 p, .int .i64 f]
/-- the message's box and the result's, beside the cursor -/
def MsgAt (w0 : World) (cb : Nat) (A : Option Addr) (n c R T : Nat) (wx : World) : Prop :=
  ∃ k r q p f : Int, Blk wx T 49 #[.int .i64 k, .int .i64 r, .int .i64 q, .int .i64 p, .int .i64 f] ∧ Blk wx R 49 #[.int .i64 0, .int .i64 0, .int .i64 0, .int .i64 0, .int .i64 0] ∧ Cur wx cb A n c ∧ Chg cb (cb + 1) w0 wx

theorem Chg.trans_top' {cb D : Nat} {w w1 w2 : World} (h : Chg cb (cb + 1) w w1) (hD : w.heap.size ≤ D) (k : Chg D (D + 1) w1 w2) : Chg cb (cb + 1) w w2 :=
  ⟨k.os.trans h.os, k.tape.trans h.tape, k.output.trans h.output, Nat.le_trans h.size k.size, fun q h1 h2 => (k.block q (by have := h.size; omega) (.inl (by omega))).trans (h.block q h1 h2)⟩
section
variable {w0 wx wy : World} {cb n c R T : Nat} {A : Option Addr}
theorem MsgAt.set (h : MsgAt w0 cb A n c R T wx) (hT : T ≠ R) (hc : cb < T) (h0 : w0.heap.size ≤ T) (j : Nat) (hj : j < 5) (x : Int) : MsgAt w0 cb A n c R T (wx.setCell ⟨T, j, none⟩ (.int .i64 x)) := by
  obtain ⟨k, r, q, p, f, hT', hR, hU, hC⟩ := h
  have hch : Chg T (T + 1) wx (wx.setCell ⟨T, j, none⟩ (.int .i64 x)) := (Chg.refl _ _ _).setCell (by simp) (by simp) _
  have hb := hT'.set_ j (.int .i64 x)
  have hR2 := (hch.block R hR.lt (by omega)).trans hR
  have hU2 := hU.chg hch hc
  have hC2 := hC.trans_top' h0 hch
  rcases (by omega : j = 0 ∨ j = 1 ∨ j = 2 ∨ j = 3 ∨ j = 4) with rfl | rfl | rfl | rfl | rfl
  · exact ⟨x, r, q, p, f, by simpa using hb, hR2, hU2, hC2⟩
  · exact ⟨k, x, q, p, f, by simpa using hb, hR2, hU2, hC2⟩
  · exact ⟨k, r, x, p, f, by simpa using hb, hR2, hU2, hC2⟩
  · exact ⟨k, r, q, x, f, by simpa using hb, hR2, hU2, hC2⟩
  · exact ⟨k, r, q, p, x, by simpa using hb, hR2, hU2, hC2⟩
theorem MsgAt.call (h : MsgAt w0 cb A n c R T wx) (hg : Chg cb (cb + 1) wx wy) (hu : Cur wy cb A n c) (hR : cb < R) (hT : cb < T) : MsgAt w0 cb A n c R T wy := by
  obtain ⟨k, r, q, p, f, hT', hR', hU, hC⟩ := h
  exact ⟨k, r, q, p, f, (hg.block T hT'.lt (.inr (by omega))).trans hT', (hg.block R hR'.lt (.inr (by omega))).trans hR', hu, hC.trans hg⟩
theorem MsgAt.alloc (h : MsgAt w0 cb A n c R T wx) (o : Obj) : MsgAt w0 cb A n c R T (wx.alloc o) := by
  obtain ⟨k, r, q, p, f, hT', hR', hU, hC⟩ := h
  exact ⟨k, r, q, p, f, hT'.below ((Below.refl _ _).alloc (Nat.le_refl _) o) hT'.lt, hR'.below ((Below.refl _ _).alloc (Nat.le_refl _) o) hR'.lt, hU.alloc o, hC.alloc o⟩
theorem MsgAt.cur (h : MsgAt w0 cb A n c R T wx) : Cur wx cb A n c := by
  obtain ⟨k, r, q, p, f, hT', hR', hU, hC⟩ := h
  exact hU
theorem MsgAt.open (h : MsgAt w0 cb A n c R T wx) : ∃ k r q p f : Int, (∀ i, wx.cell? ⟨T, i, none⟩ = (#[.int .i64 k, .int .i64 r, .int .i64 q, .int .i64 p, .int .i64 f] : Array Value)[i]?) ∧ (∀ i, wx.frozen? ⟨T, i, none⟩ = false) ∧ T < wx.heap.size := by
  obtain ⟨k, r, q, p, f, hT', hR', hU, hC⟩ := h
  exact ⟨k, r, q, p, f, hT'.cell, hT'.frozen, hT'.lt⟩
end

set_option maxRecDepth 100000 in
set_option maxHeartbeats 2000000 in
theorem l16Msg_any (cb : Nat) (A : Option Addr) (n c : Nat) (w : World) (hc : Cur w cb A n c) :
    Calls Try.prog 87 #[.pointer (some ⟨cb, 0, none⟩)] w (Drew cb A n c IsMsg w) := by
  have HC := Lib.hid hc
  have hlt := hc.lt
  clear hc
  go_enter Try.func87, Try.ntmps87
  go_wp2_with fail
  refine (l1Below_any cb A n c 3 _ (HC.out.alloc _) (by omega)).mono ?_
  rintro e w1 ⟨v, rfl, ⟨x1, rfl, _, _⟩, hg, hu⟩
  have G1 := Lib.hid hg
  have HU1 := Lib.hid hu
  have HR1 : Hid (Blk w1 w.heap.size 49 #[.int .i64 0, .int .i64 0, .int .i64 0, .int .i64 0, .int .i64 0]) := (hg.block _ (by simp) (.inr (by omega))).trans (heap_alloc_new w _)
  have hs1 : w.heap.size < w1.heap.size := HR1.out.lt
  have C1 := Lib.hid (((Chg.refl cb (cb + 1) w).alloc _).trans hg)
  clear hg hu
  go_wp2_with fail
  refine (l1Below_any cb A n c 3 _ HU1.out (by omega)).mono ?_
  rintro e w2 ⟨v, rfl, ⟨x2, rfl, hx0, hx1⟩, hg, hu⟩
  simp at hx1
  have C2 := Lib.hid (C1.out.trans hg)
  have HR2 : Hid (Blk w2 w.heap.size 49 #[.int .i64 0, .int .i64 0, .int .i64 0, .int .i64 0, .int .i64 0]) := (hg.block _ hs1 (.inr (by omega))).trans HR1.out
  have HU2 := Lib.hid hu
  have hs2 : w.heap.size < w2.heap.size := HR2.out.lt
  clear hg hu
  go_wp2_with fail
  refine (l1PickInt_any cb A n c w2.heap.size 6 (-100) 100 _ (HU2.out.alloc _) (by decide) (by decide) HU2.out.lt (by simp) ?_).mono ?_
  · intro j hj
    rcases (by omega : j = 0 ∨ j = 1 ∨ j = 2 ∨ j = 3 ∨ j = 4 ∨ j = 5) with rfl | rfl | rfl | rfl | rfl | rfl
    · exact ⟨11, by simp, by decide, by decide⟩
    · exact ⟨12, by simp, by decide, by decide⟩
    · exact ⟨12, by simp, by decide, by decide⟩
    · exact ⟨11, by simp, by decide, by decide⟩
    · exact ⟨14, by simp, by decide, by decide⟩
    · exact ⟨0, by simp, by decide, by decide⟩
  rintro e w3 ⟨v, rfl, ⟨x3, rfl, _, _⟩, hg, hu⟩
  have C3 := Lib.hid (C2.out.trans (((Chg.refl cb (cb + 1) w2).alloc _).trans hg))
  have HR3 : Hid (Blk w3 w.heap.size 49 #[.int .i64 0, .int .i64 0, .int .i64 0, .int .i64 0, .int .i64 0]) := (hg.block _ (by simp; omega) (.inr (by omega))).trans (HR2.out.below ((Below.refl _ _).alloc (Nat.le_refl _) _) hs2)
  have HU3 := Lib.hid hu
  have hs3 : w.heap.size < w3.heap.size := HR3.out.lt
  clear hg hu
  go_wp2_with fail
  refine (l1Below_any cb A n c 4 _ HU3.out (by omega)).mono ?_
  rintro e w4 ⟨v, rfl, ⟨x4, rfl, _, _⟩, hg, hu⟩
  have C4 := Lib.hid (C3.out.trans hg)
  have HR4 : Hid (Blk w4 w.heap.size 49 #[.int .i64 0, .int .i64 0, .int .i64 0, .int .i64 0, .int .i64 0]) := (hg.block _ hs3 (.inr (by omega))).trans HR3.out
  have HU4 := Lib.hid hu
  have hs4 : w.heap.size < w4.heap.size := HR4.out.lt
  clear hg hu
  go_upto_region 2 with fail
  obtain ⟨w5, hw5⟩ : ∃ q, q = w4.alloc (.cells #[.int .i64 (1 + x1), .int .i64 x2, .int .i64 x3, .int .i64 (-1), .int .i64 (1 + x4)] 49) := ⟨_, rfl⟩
  rw [← hw5]
  have HT := Lib.hid (show Blk w5 w4.heap.size 49 #[.int .i64 (1 + x1), .int .i64 x2, .int .i64 x3, .int .i64 (-1), .int .i64 (1 + x4)] by rw [hw5]; exact heap_alloc_new w4 _)
  have HR := Lib.hid (show Blk w5 w.heap.size 49 #[.int .i64 0, .int .i64 0, .int .i64 0, .int .i64 0, .int .i64 0] by rw [hw5]; exact HR4.out.below ((Below.refl _ _).alloc (Nat.le_refl _) _) hs4)
  have HU := Lib.hid (show Cur w5 cb A n c by rw [hw5]; exact HU4.out.alloc _)
  have HC' := Lib.hid (show Chg cb (cb + 1) w w5 by rw [hw5]; exact C4.out.alloc _)
  clear hw5 HR4 HU4 C4 HR3 HU3 C3 HR2 HU2 C2 HR1 HU1 C1 G1 HC
  have HC := HC'
  clear HC'
  have tg := HT.out.cell
  have tf := HT.out.frozen
  have ht5 := HT.out.lt
  have hr5 := HR.out.lt
  have hcT : cb < w4.heap.size := by omega
  have M5 : Hid (MsgAt w cb A n c w.heap.size w4.heap.size w5) := Lib.hid ⟨_, _, _, _, _, HT.out, HR.out, HU.out, HC.out⟩
  clear HT HR HU HC
  go_upto_if 18 with fail
  go_cut [] (fun wx => MsgAt w cb A n c w.heap.size w4.heap.size wx)
  case first =>
    by_cases hk : (1 : Int) + x1 = 1
    · go_wp2_with fail
      refine (l16Proposer_any x2 _ hx0 (by omega)).mono ?_
      rintro e w6 ⟨rfl, rfl⟩
      go_wp2_with fail
      have M6 := Lib.hid (M5.out.set (by omega) hcT (by omega) 4 (by decide) (propOf x2))
      clear M5 tg tf
      refine (l1Once_any cb A n c 3 _ M6.out.cur (by omega)).mono ?_
      rintro e w7 ⟨v, rfl, ⟨b, rfl⟩, hg, hu⟩
      have M7 := Lib.hid (M6.out.call hg hu hlt hcT)
      clear hg hu M6
      obtain ⟨k, r, q, p, f, tg, tf, ht7⟩ := M7.out.open
      cases b
      · go_wp2_with fail
        go_meet
        exact M7.out
      · go_wp2_with fail
        go_meet
        exact M7.out.set (by omega) hcT (by omega) 3 (by decide) _
    · go_wp2_with fail
      go_meet
      exact M5.out
  case rest =>
  have M8 := Lib.hid hcut
  clear hcut M5 tg tf hx0 hx1
  go_wp2_with fail
  refine (l1Once_any cb A n c 12 _ M8.out.cur (by omega)).mono ?_
  rintro e w9 ⟨v, rfl, ⟨b, rfl⟩, hg, hu⟩
  have M9 := Lib.hid (M8.out.call hg hu hlt hcT)
  clear hg hu M8
  go_upto_if 30 with fail
  go_cut [] (fun wx => MsgAt w cb A n c w.heap.size w4.heap.size wx)
  case first =>
    cases b
    · go_wp2_with fail
      go_meet
      exact M9.out
    · go_wp2_with fail
      refine (l1Below_any cb A n c 4 _ M9.out.cur (by omega)).mono ?_
      rintro e w10 ⟨v, rfl, ⟨x, rfl, y0, y1⟩, hg, hu⟩
      simp at y1
      have M10 := Lib.hid (M9.out.call hg hu hlt hcT)
      clear hg hu M9
      rcases (by omega : x = 0 ∨ x = 1 ∨ x = 2 ∨ x = 3) with rfl | rfl | rfl | rfl
      · go_wp2_with fail
        refine (l1PickInt_any cb A n c w10.heap.size 3 (-100) 100 _ (M10.out.cur.alloc _) (by decide) (by decide) M10.out.cur.lt (by simp) ?_).mono ?_
        · intro j hj
          rcases (by omega : j = 0 ∨ j = 1 ∨ j = 2) with rfl | rfl | rfl
          · exact ⟨-1, by simp, by decide, by decide⟩
          · exact ⟨11, by simp, by decide, by decide⟩
          · exact ⟨12, by simp, by decide, by decide⟩
        rintro e w11 ⟨v, rfl, ⟨z, rfl, _, _⟩, hg, hu⟩
        have M11 := Lib.hid ((M10.out.alloc _).call hg hu hlt hcT)
        clear hg hu M10
        obtain ⟨k, r, q, p, f, tg, tf, ht7⟩ := M11.out.open
        go_wp2_with fail
        go_meet
        exact M11.out.set (by omega) hcT (by omega) 1 (by decide) _
      · go_wp2_with fail
        refine (l1Below_any cb A n c 6 _ M10.out.cur (by omega)).mono ?_
        rintro e w11 ⟨v, rfl, ⟨z, rfl, _, _⟩, hg, hu⟩
        have M11 := Lib.hid (M10.out.call hg hu hlt hcT)
        clear hg hu M10
        obtain ⟨k, r, q, p, f, tg, tf, ht7⟩ := M11.out.open
        go_wp2_with fail
        go_meet
        exact M11.out.set (by omega) hcT (by omega) 4 (by decide) _
      · go_wp2_with fail
        refine (l1PickInt_any cb A n c w10.heap.size 3 (-100) 100 _ (M10.out.cur.alloc _) (by decide) (by decide) M10.out.cur.lt (by simp) ?_).mono ?_
        · intro j hj
          rcases (by omega : j = 0 ∨ j = 1 ∨ j = 2) with rfl | rfl | rfl
          · exact ⟨-1, by simp, by decide, by decide⟩
          · exact ⟨20, by simp, by decide, by decide⟩
          · exact ⟨21, by simp, by decide, by decide⟩
        rintro e w11 ⟨v, rfl, ⟨z, rfl, _, _⟩, hg, hu⟩
        have M11 := Lib.hid ((M10.out.alloc _).call hg hu hlt hcT)
        clear hg hu M10
        obtain ⟨k, r, q, p, f, tg, tf, ht7⟩ := M11.out.open
        go_wp2_with fail
        go_meet
        exact M11.out.set (by omega) hcT (by omega) 2 (by decide) _
      · go_wp2_with fail
        refine (l1Below_any cb A n c 3 _ M10.out.cur (by omega)).mono ?_
        rintro e w11 ⟨v, rfl, ⟨z, rfl, _, _⟩, hg, hu⟩
        have M11 := Lib.hid (M10.out.call hg hu hlt hcT)
        clear hg hu M10
        obtain ⟨k, r, q, p, f, tg, tf, ht7⟩ := M11.out.open
        go_wp2_with fail
        go_meet
        exact M11.out.set (by omega) hcT (by omega) 3 (by decide) _
  case rest =>
  have M12 := Lib.hid hcut
  clear hcut M9
  obtain ⟨k, r, q, p, f, hT, hR, hU, hC⟩ := M12.out
  have tg := hT.cell
  have rg := hR.cell
  have rf := hR.frozen
  have HU := Lib.hid hU
  have HC := Lib.hid hC
  have ht7 := hT.lt
  clear hT hR hU hC M12
  go_wp2_with fail
  refine bodyPost_ret (v := .agg #[.int .i64 k, .int .i64 r, .int .i64 q, .int .i64 p, .int .i64 f]) (by simp [results, Try.results87, go_sem, rg]) rfl ⟨_, rfl, ⟨_, _, _, _, _, rfl⟩, ?_, ?_⟩
  · exact HC.out.trans_top' (D := w.heap.size) (Nat.le_refl _) (by (repeat (first | with_reducible refine Chg.setCell ?_ (by first | exact Nat.le_refl _ | (simp; done) | (simp; omega)) (by first | (simp; done) | (simp; omega)) _ | with_reducible refine Chg.alloc ?_ _ | with_reducible refine Chg.drew ?_)); (with_reducible exact Chg.refl _ _ _))
  · refine HU.out.chg (lo := w.heap.size) (hi := w.heap.size + 1) ?_ hlt
    (repeat (first | with_reducible refine Chg.setCell ?_ (by first | exact Nat.le_refl _ | (simp; done) | (simp; omega)) (by first | (simp; done) | (simp; omega)) _ | with_reducible refine Chg.alloc ?_ _ | with_reducible refine Chg.drew ?_)); (with_reducible exact Chg.refl _ _ _)
end Go.Proofs.Ytjgaelnonacdkaa
namespace Go.Proofs.Ytjgaelnonacdkaa
open Go.RowKit

def SizeOutS (m : Int) (w : World) (e : Ending) (w' : World) : Prop := ∃ x : Int, e = .returned (.int .i64 x) ∧ 0 ≤ x ∧ x ≤ m ∧ w = w'
set_option maxHeartbeats 1000000 in
theorem l1SizeS_any (A : Option Addr) (n c : Nat) (m : Int) (w : World) (hn : n ≤ 1048576) (h0 : 0 ≤ m) :
    Calls Try.prog 52 #[.slice A n c, .int .i64 m] w (SizeOutS m w) := by
  by_cases h : m < 2 + (n : Int) / 20
  · go_enter Try.func52, Try.ntmps52
    go_wp2
    go_ret
    exact ⟨m, rfl, h0, Int.le_refl _, rfl⟩
  · go_enter Try.func52, Try.ntmps52
    go_wp2
    go_ret
    exact ⟨2 + (n : Int) / 20, rfl, by omega, by omega, rfl⟩
end Go.Proofs.Ytjgaelnonacdkaa
