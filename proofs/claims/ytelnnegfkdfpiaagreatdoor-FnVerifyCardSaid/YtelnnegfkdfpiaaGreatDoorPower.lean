/- Power: powerOf, PowerOf, Enough of the program and of the reference (written by wip/pow.py). -/
import Derived.Test.YtelnnegfkdfpiaaGreatDoorVerPure
import Derived.WalkKit
import Derived.WalkSpells
import Derived.WalkLawsBesides
import Derived.Lib.Hide
namespace Go.Proofs.YtelnnegfkdfpiaaGreatDoor
open Go.RowKit

theorem allClo_any (x : Int) (w : World) :
    Calls Tryz.prog 114 #[.int .i64 x] w fun e w' => e = .returned (.bool true) ∧ Below w.heap.size w w' := by
  go_enter Tryz.func114, Tryz.ntmps114
  go_wp2
  go_ret
  exact ⟨rfl, (by repeat (first | exact Below.refl _ _ | assumption | refine Below.drew ?_ | refine belN ?_ _ | refine Below.alloc ?_ (by first | exact Nat.le_refl _ | (simp; done) | (simp; omega) | omega) _ | refine Below.setCell ?_ (by first | exact Nat.le_refl _ | (simp; done) | (simp; omega) | omega) _ | refine Below.trans ?_ (Below.mono (by assumption) (by first | exact Nat.le_refl _ | (simp; done) | (simp; omega) | omega))))⟩
theorem hasClo_any (x : Int) (b : Nat) (B : Option Addr) (n c : Nat) (ids : List Int) (w : World) (hx : w.cell? ⟨b, 0, none⟩ = some (.slice B n c)) (_ : b < w.heap.size) (hi : RdL intC 1 w w.heap.size B n c ids) :
    Calls Tryz.prog 103 #[.int .i64 x, .pointer (some ⟨b, 0, none⟩)] w fun e w' => e = .returned (.bool (hasI ids x)) ∧ Below w.heap.size w w' := by
  have HI := Lib.hid hi
  clear hi
  go_enter Tryz.func103, Tryz.ntmps103
  go_wp2_with fail
  refine (ContainsInt_any B n c ids x _ HI.out).mono ?_
  rintro e w1 ⟨rfl, hb⟩
  go_wp2_with fail
  go_ret
  exact ⟨rfl, hb⟩

set_option maxRecDepth 100000 in
set_option maxHeartbeats 2000000 in
theorem powerOfAll_any (A : Option Addr) (n c : Nat) (l : List ValD) (w : World) (hl : RdL valC 2 w w.heap.size A n c l) (hv : valsB l = true) :
    Calls Tryz.prog 102 #[.slice A n c, .func (Fn.func 114) #[] #[]] w fun e w' => e = .returned (.int .i64 (sumP (fun _ => true) l)) ∧ Below w.heap.size w w' := by
  have hn := hl.le
  have HL := Lib.hid hl
  have H0 := Lib.hid hl.1
  have HV := Lib.hid hv
  have h7 := (valsB_len hv).2
  have hn7 : n ≤ 7 := by rw [← hl.1]; exact h7
  clear hl hv h7
  go_enter Tryz.func102, Tryz.ntmps102
  go_wp2_with fail
  go_loopw [5, 10] (fun sv i wr => ∃ k : Nat, k ≤ n ∧ i = .int .i64 k ∧ sv = .int .i64 (sumK (fun _ => true) l k) ∧ Below w.heap.size w wr) (fun _ i _ => n - (intOf i).toNat)
  case atStart => exact ⟨0, by omega, rfl, by rw [sumK_zero], Below.refl _ _⟩
  case round =>
    obtain ⟨k, hk, rfl, rfl, hb⟩ := hrel
    have hz := hb.size
    have HB := Lib.hid hb; clear hb
    by_cases hkn : k < n
    · obtain ⟨b, off, p, rfl, hb1, hp, c0, c1⟩ := val_cells (HL.out.below HB.out (Nat.le_refl _)) hkn
      have HS := Lib.hid (sumK_succ (f := (fun _ => true)) hp)
      obtain ⟨p0, p1⟩ := valsB_pw HV.out hp
      obtain ⟨s0, s1⟩ := sumK_bd (f := (fun _ => true)) HV.out (k := k) (by rw [H0.out]; omega)
      clear hp
      generalize sumK (fun _ => true) l k = sm at *
      go_upto_region 5 with fail
      obtain ⟨w1, hw1⟩ : ∃ q, q = wr.alloc (.cells #[.int .i64 p.id, .int .i64 p.pw] 84) := ⟨_, rfl⟩
      rw [← hw1]
      have HB1 : Hid (Below w.heap.size w w1) := by show Below _ _ _; rw [hw1]; exact HB.out.alloc hz _
      have hbk : Blk w1 wr.heap.size 84 #[.int .i64 p.id, .int .i64 p.pw] := by rw [hw1]; exact heap_alloc_new wr _
      have x0 := hbk.cell 0
      have x1 := hbk.cell 1
      have hs1 := hbk.lt
      clear hw1 c0 c1 hbk
      go_wp2_with fail
      refine (allClo_any _ _).mono ?_
      rintro e w2 ⟨rfl, hb2⟩
      have HB2 := Lib.hid (HB1.out.trans (hb2.mono (by omega)))
      have z1 := (hb2.cell (p := ⟨wr.heap.size, 1, none⟩) hs1).trans x1
      have hs2 := hb2.size
      have hlt2 : wr.heap.size < w2.heap.size := by omega
      clear hb2 x0 x1
      go_wp2_with fail
      go_roundw
      case rel => exact ⟨k + 1, by omega, by go_num, by rw [HS.out]; simp, HB2.out⟩
      case measure => simp [intOf]; omega
    · obtain rfl : k = n := by omega
      have HE : Hid (sumK (fun _ => true) l k = sumP (fun _ => true) l) := by show _ = _; rw [← H0.out]; exact sumK_all _ _
      go_wp2_with fail
      go_ret
      exact ⟨by rw [HE.out]; rfl, HB.out⟩

set_option maxRecDepth 100000 in
set_option maxHeartbeats 2000000 in
theorem powerOfHas_any (A : Option Addr) (n c : Nat) (l : List ValD) (b0 : Nat) (B : Option Addr) (nb cb : Nat) (ids : List Int) (w : World) (hl : RdL valC 2 w w.heap.size A n c l) (hv : valsB l = true) (hx : w.cell? ⟨b0, 0, none⟩ = some (.slice B nb cb)) (hlt : b0 < w.heap.size) (hi : RdL intC 1 w w.heap.size B nb cb ids) :
    Calls Tryz.prog 102 #[.slice A n c, .func (Fn.func 103) #[] #[.pointer (some ⟨b0, 0, none⟩)]] w fun e w' => e = .returned (.int .i64 (sumP (hasI ids) l)) ∧ Below w.heap.size w w' := by
  have hn := hl.le
  have HL := Lib.hid hl
  have H0 := Lib.hid hl.1
  have HV := Lib.hid hv
  have h7 := (valsB_len hv).2
  have hn7 : n ≤ 7 := by rw [← hl.1]; exact h7
  have HI := Lib.hid hi
  have HX := Lib.hid hx
  clear hi hx
  clear hl hv h7
  go_enter Tryz.func102, Tryz.ntmps102
  go_wp2_with fail
  go_loopw [5, 10] (fun sv i wr => ∃ k : Nat, k ≤ n ∧ i = .int .i64 k ∧ sv = .int .i64 (sumK (hasI ids) l k) ∧ Below w.heap.size w wr) (fun _ i _ => n - (intOf i).toNat)
  case atStart => exact ⟨0, by omega, rfl, by rw [sumK_zero], Below.refl _ _⟩
  case round =>
    obtain ⟨k, hk, rfl, rfl, hb⟩ := hrel
    have hz := hb.size
    have HB := Lib.hid hb; clear hb
    by_cases hkn : k < n
    · obtain ⟨b, off, p, rfl, hb1, hp, c0, c1⟩ := val_cells (HL.out.below HB.out (Nat.le_refl _)) hkn
      have HS := Lib.hid (sumK_succ (f := (hasI ids)) hp)
      obtain ⟨p0, p1⟩ := valsB_pw HV.out hp
      obtain ⟨s0, s1⟩ := sumK_bd (f := (hasI ids)) HV.out (k := k) (by rw [H0.out]; omega)
      clear hp
      generalize sumK (hasI ids) l k = sm at *
      go_upto_region 5 with fail
      obtain ⟨w1, hw1⟩ : ∃ q, q = wr.alloc (.cells #[.int .i64 p.id, .int .i64 p.pw] 84) := ⟨_, rfl⟩
      rw [← hw1]
      have HB1 : Hid (Below w.heap.size w w1) := by show Below _ _ _; rw [hw1]; exact HB.out.alloc hz _
      have hbk : Blk w1 wr.heap.size 84 #[.int .i64 p.id, .int .i64 p.pw] := by rw [hw1]; exact heap_alloc_new wr _
      have x0 := hbk.cell 0
      have x1 := hbk.cell 1
      have hs1 := hbk.lt
      clear hw1 c0 c1 hbk
      go_wp2_with fail
      refine (hasClo_any _ b0 B nb cb ids _ (by exact (HB1.out.cell (p := ⟨b0, 0, none⟩) hlt).trans HX.out) (by omega) (by exact (HI.out.below HB1.out (Nat.le_refl _)).more HB1.out.size)).mono ?_
      rintro e w2 ⟨rfl, hb2⟩
      have HB2 := Lib.hid (HB1.out.trans (hb2.mono (by omega)))
      have z1 := (hb2.cell (p := ⟨wr.heap.size, 1, none⟩) hs1).trans x1
      have hs2 := hb2.size
      have hlt2 : wr.heap.size < w2.heap.size := by omega
      clear hb2 x0 x1
      cases hq : hasI ids p.id
      · have HQ := Lib.hid hq
        clear hq
        go_wp2_with fail
        go_roundw
        case rel => exact ⟨k + 1, by omega, by go_num, by rw [HS.out]; rw [HQ.out]; simp, HB2.out⟩
        case measure => simp [intOf]; omega
      · have HQ := Lib.hid hq
        clear hq
        go_wp2_with fail
        go_roundw
        case rel => exact ⟨k + 1, by omega, by go_num, by rw [HS.out]; rw [HQ.out]; simp, HB2.out⟩
        case measure => simp [intOf]; omega
    · obtain rfl : k = n := by omega
      have HE : Hid (sumK (hasI ids) l k = sumP (hasI ids) l) := by show _ = _; rw [← H0.out]; exact sumK_all _ _
      go_wp2_with fail
      go_ret
      exact ⟨by rw [HE.out]; rfl, HB.out⟩

set_option maxHeartbeats 1000000 in
theorem PowerOf_any (A : Option Addr) (n c : Nat) (l : List ValD) (w : World) (hl : RdL valC 2 w w.heap.size A n c l) :
    Calls Tryz.prog 105 #[.slice A n c] w fun e w' => e = .returned (.int .i64 (powL l)) ∧ Below w.heap.size w w' := by
  have HL := Lib.hid hl
  clear hl
  cases hv : valsB l
  · have HE : Hid (powL l = 0) := by show _ = _; unfold powL; rw [hv]; rfl
    have HV := Lib.hid hv
    clear hv
    go_enter Tryz.func105, Tryz.ntmps105
    go_wp2_with fail
    refine (ValsOk_any A n c l _ HL.out).mono ?_
    rw [HV.out]
    rintro e w1 ⟨rfl, hb⟩
    go_wp2_with fail
    go_ret
    exact ⟨by rw [HE.out]; rfl, hb⟩
  · have HE : Hid (powL l = sumP (fun _ => true) l) := Lib.hid (powL_ok hv)
    have HV := Lib.hid hv
    clear hv
    go_enter Tryz.func105, Tryz.ntmps105
    go_wp2_with fail
    refine (ValsOk_any A n c l _ HL.out).mono ?_
    rw [HV.out]
    rintro e w1 ⟨rfl, hb⟩
    have HB1 := Lib.hid hb
    clear hb
    go_wp2_with fail
    refine (powerOfAll_any A n c l _ ((HL.out.below HB1.out (Nat.le_refl _)).more HB1.out.size) HV.out).mono ?_
    rintro e w2 ⟨rfl, hb⟩
    go_wp2_with fail
    go_ret
    exact ⟨by rw [HE.out]; rfl, HB1.out.trans (hb.mono HB1.out.size)⟩

set_option maxRecDepth 100000 in
set_option maxHeartbeats 4000000 in
theorem Enough_any (A : Option Addr) (n c : Nat) (l : List ValD) (B : Option Addr) (nb cb : Nat) (ids : List Int) (w : World) (hl : RdL valC 2 w w.heap.size A n c l) (hi : RdL intC 1 w w.heap.size B nb cb ids) :
    Calls Tryz.prog 94 #[.slice A n c, .slice B nb cb] w fun e w' => e = .returned (.bool (enoughB l ids)) ∧ Below w.heap.size w w' := by
  have HL := Lib.hid hl
  have HI := Lib.hid hi
  clear hl hi
  have HVO : ∀ wx : World, RdL valC 2 wx wx.heap.size A n c l → Hid (Calls Tryz.prog 92 #[.slice A n c] wx fun e w' => e = .returned (.bool (valsB l)) ∧ Below wx.heap.size wx w') := fun wx h => ValsOk_any A n c l wx h
  go_enter Tryz.func94, Tryz.ntmps94
  go_upto_region 1 with fail
  obtain ⟨wb, hwb⟩ : ∃ q, q = w.alloc (.cells #[.slice B nb cb] 42) := ⟨_, rfl⟩
  rw [← hwb]
  have hbx : Blk wb w.heap.size 42 #[.slice B nb cb] := by rw [hwb]; exact heap_alloc_new w _
  have HB0 : Hid (Below w.heap.size w wb) := by show Below _ _ _; rw [hwb]; exact (Below.refl _ _).alloc (Nat.le_refl _) _
  clear hwb
  have hzb := hbx.lt
  have x0 := hbx.cell 0
  have HX0 := Lib.hid x0
  have HRB := Lib.hid ((HL.out.below HB0.out (Nat.le_refl _)).more HB0.out.size)
  have HIB := Lib.hid ((HI.out.below HB0.out (Nat.le_refl _)).more HB0.out.size)
  clear hbx x0
  cases hv : valsB l
  · have HE : Hid (enoughB l ids = false) := Lib.hid (enough_bad hv)
    rw [hv] at HVO
    clear hv
    go_wp2_with fail
    refine ((HVO _ HRB.out).out).mono ?_
    rintro e w2 ⟨rfl, hb2⟩
    go_wp2_with fail
    go_ret
    exact ⟨by rw [HE.out]; rfl, HB0.out.trans (hb2.mono HB0.out.size)⟩
  · have HE : Hid (enoughB l ids = decide (2 * powL l < 3 * sumP (hasI ids) l)) := Lib.hid (enough_ok hv)
    have HPO : ∀ wx : World, RdL valC 2 wx wx.heap.size A n c l → Hid (Calls Tryz.prog 105 #[.slice A n c] wx fun e w' => e = .returned (.int .i64 (powL l)) ∧ Below wx.heap.size wx w') := fun wx h => PowerOf_any A n c l wx h
    have HPH : ∀ wx : World, RdL valC 2 wx wx.heap.size A n c l → wx.cell? ⟨w.heap.size, 0, none⟩ = some (.slice B nb cb) → w.heap.size < wx.heap.size → RdL intC 1 wx wx.heap.size B nb cb ids →
        Hid (Calls Tryz.prog 102 #[.slice A n c, .func (Fn.func 103) #[] #[.pointer (some ⟨w.heap.size, 0, none⟩)]] wx fun e w' => e = .returned (.int .i64 (sumP (hasI ids) l)) ∧ Below wx.heap.size wx w') := fun wx h1 h2 h3 h4 => powerOfHas_any A n c l w.heap.size B nb cb ids wx h1 hv h2 h3 h4
    obtain ⟨q0, q1⟩ := powL_bd l
    obtain ⟨s0, s1⟩ := sumP_bd (f := hasI ids) hv
    rw [hv] at HVO
    clear hv
    generalize powL l = pw at *
    generalize sumP (hasI ids) l = sm at *
    cases hq : decide (2 * pw < 3 * sm)
    all_goals
      have HQ := Lib.hid hq
      go_wp2_with fail
      refine ((HVO _ HRB.out).out).mono ?_
      rintro e w2 ⟨rfl, hb2⟩
      have HB2 := Lib.hid hb2
      have hz2 := hb2.size
      clear hb2
      go_wp2_with fail
      refine ((HPH _ (by exact (HRB.out.below HB2.out (Nat.le_refl _)).more hz2) (by exact (HB2.out.cell (p := ⟨w.heap.size, 0, none⟩) hzb).trans HX0.out) (by omega) (by exact (HIB.out.below HB2.out (Nat.le_refl _)).more hz2)).out).mono ?_
      rintro e w3 ⟨rfl, hb3⟩
      have HB3 := Lib.hid (HB2.out.trans (hb3.mono hz2))
      have hz3 := HB3.out.size
      clear hb3
      go_wp2_with fail
      refine ((HPO _ (by exact (HRB.out.below HB3.out (Nat.le_refl _)).more hz3)).out).mono ?_
      rintro e w4 ⟨rfl, hb4⟩
      have HB4 := Lib.hid (HB3.out.trans (hb4.mono hz3))
      clear hb4
      go_wp2_with fail
      go_ret
      exact ⟨by rw [HE.out, HQ.out]; rfl, HB0.out.trans (HB4.out.mono HB0.out.size)⟩

set_option maxHeartbeats 400000 in
theorem l6Has_any (A : Option Addr) (n c : Nat) (l : List Int) (x : Int) (w : World) (hl : RdL intC 1 w w.heap.size A n c l) :
    Calls Tryz.prog 50 #[.slice A n c, .int .i64 x] w fun e w' => e = .returned (.bool (hasI l x)) ∧ Below w.heap.size w w' := by
  have hn := hl.le
  have HL := Lib.hid hl
  have H0 := Lib.hid hl.1
  clear hl
  go_enter Tryz.func50, Tryz.ntmps50
  go_wp2_with fail
  go_loop [5] (fun i => ∃ k : Nat, k ≤ n ∧ i = .int .i64 k ∧ noneTo (fun y => x == y) l k = true) (fun i => n - (intOf i).toNat)
  case atStart => exact ⟨0, by omega, rfl, noneTo_zero _ _⟩
  case round =>
    obtain ⟨k, hk, rfl, hno⟩ := hrel
    have HN := Lib.hid hno; clear hno
    by_cases hkn : k < n
    · obtain ⟨b, off, p, rfl, hb1, hp, c0⟩ := int_cells HL.out hkn
      have HP := Lib.hid hp; clear hp
      cases ht : (p == x)
      · have HT : Hid ((x == p) = false) := Lib.hid (by rw [Bool.beq_comm] at ht; exact ht)
        go_wp2
        go_round
        case rel => exact ⟨k + 1, by omega, by go_num, noneTo_succ HP.out HN.out HT.out⟩
        case measure => simp [intOf]; omega
      · have HT : Hid ((x == p) = true) := Lib.hid (by rw [Bool.beq_comm] at ht; exact ht)
        go_wp2
        go_ret
        have hf := firstBy_hasI l x
        rw [show firstBy (fun y => x == y) l = k from firstBy_hit HP.out HN.out HT.out] at hf
        exact ⟨by rw [← hf]; simp, Below.refl _ _⟩
    · obtain rfl : k = n := by omega
      go_wp2
      go_ret
      have hf := firstBy_hasI l x
      rw [show firstBy (fun y => x == y) l = -1 from firstBy_miss (by rw [H0.out]; exact HN.out)] at hf
      exact ⟨by rw [← hf]; rfl, Below.refl _ _⟩

set_option maxRecDepth 100000 in
set_option maxHeartbeats 2000000 in
theorem sPowerOf_any (A : Option Addr) (n c : Nat) (l : List ValD) (w : World) (hl : RdL valC 2 w w.heap.size A n c l) :
    Calls Tryz.prog 51 #[.slice A n c] w fun e w' => e = .returned (.int .i64 (powL l)) ∧ Below w.heap.size w w' := by
  have hn := hl.le
  have HL := Lib.hid hl
  have H0 := Lib.hid hl.1
  clear hl
  have HVO : ∀ wx : World, RdL valC 2 wx wx.heap.size A n c l → Hid (Calls Tryz.prog 46 #[.slice A n c] wx fun e w' => e = .returned (.bool (valsB l)) ∧ Below wx.heap.size wx w') := fun wx h => sValsOk_any A n c l wx h
  cases hv : valsB l
  · have HE : Hid (powL l = 0) := by show _ = _; unfold powL; rw [hv]; rfl
    rw [hv] at HVO
    clear hv
    go_enter Tryz.func51, Tryz.ntmps51
    go_wp2_with fail
    go_loopw [3, 4] (fun s i wr => s = .int .i64 0 ∧ i = .int .i64 0 ∧ Below w.heap.size w wr) (fun _ i _ => n - (intOf i).toNat)
    case atStart => exact ⟨rfl, rfl, Below.refl _ _⟩
    case round =>
      obtain ⟨rfl, rfl, hb⟩ := hrel
      have HB := Lib.hid hb
      have HR := Lib.hid ((HL.out.below hb (Nat.le_refl _)).more hb.size)
      clear hb
      by_cases hn0 : 0 < n
      · go_wp2_with fail
        refine ((HVO _ HR.out).out).mono ?_
        rintro e w2 ⟨rfl, hb2⟩
        go_wp2_with fail
        go_ret
        exact ⟨by rw [HE.out]; rfl, HB.out.trans (hb2.mono HB.out.size)⟩
      · go_wp2_with fail
        go_ret
        exact ⟨by rw [HE.out]; rfl, HB.out⟩
  · have HE : Hid (powL l = sumP (fun _ => true) l) := Lib.hid (powL_ok hv)
    have HV := Lib.hid hv
    have h7 := (valsB_len hv).2
    have hn7 : n ≤ 7 := by rw [← H0.out]; exact h7
    rw [hv] at HVO
    clear hv h7
    go_enter Tryz.func51, Tryz.ntmps51
    go_wp2_with fail
    go_loopw [3, 4] (fun s i wr => ∃ k : Nat, k ≤ n ∧ i = .int .i64 k ∧ s = .int .i64 (sumK (fun _ => true) l k) ∧ Below w.heap.size w wr) (fun _ i _ => n - (intOf i).toNat)
    case atStart => exact ⟨0, by omega, rfl, by rw [sumK_zero], Below.refl _ _⟩
    case round =>
      obtain ⟨k, hk, rfl, rfl, hb⟩ := hrel
      have HB := Lib.hid hb
      have HR := Lib.hid ((HL.out.below hb (Nat.le_refl _)).more hb.size)
      have hz := hb.size
      clear hb
      by_cases hkn : k < n
      · obtain ⟨b, off, p, rfl, hb1, hp, c0, c1⟩ := val_cells (HL.out.below HB.out (Nat.le_refl _)) hkn
        have HS := Lib.hid (sumK_succ (f := fun _ => true) hp)
        obtain ⟨p0, p1⟩ := valsB_pw HV.out hp
        obtain ⟨s0, s1⟩ := sumK_bd (f := fun _ => true) HV.out (k := k) (by rw [H0.out]; omega)
        clear hp
        generalize sumK (fun _ => true) l k = sm at *
        have hbo : b < wr.heap.size := by omega
        go_wp2_with fail
        refine ((HVO _ HR.out).out).mono ?_
        rintro e w2 ⟨rfl, hb2⟩
        have hz2 := hb2.size
        have d1 := (hb2.cell (p := ⟨b, off + k * 2 + 1, none⟩) hbo).trans c1
        have hbo2 : b < w2.heap.size := by omega
        have HB2 := Lib.hid (HB.out.trans (hb2.mono hz))
        clear hb2 c0 c1
        have k0 : (0 : Int) ≤ k := by omega
        have k1 : (k : Int) < n := by omega
        go_wp2_with fail
        go_roundw
        case rel => exact ⟨k + 1, by omega, by go_num, by rw [HS.out]; simp, HB2.out⟩
        case measure => simp [intOf]; omega
      · obtain rfl : k = n := by omega
        have HE2 : Hid (sumK (fun _ => true) l k = sumP (fun _ => true) l) := by show _ = _; rw [← H0.out]; exact sumK_all _ _
        go_wp2_with fail
        go_ret
        exact ⟨by rw [HE.out, HE2.out]; rfl, HB.out⟩

set_option maxRecDepth 100000 in
set_option maxHeartbeats 4000000 in
theorem sEnough_any (A : Option Addr) (n c : Nat) (l : List ValD) (B : Option Addr) (nb cb : Nat) (ids : List Int) (w : World) (hl : RdL valC 2 w w.heap.size A n c l) (hi : RdL intC 1 w w.heap.size B nb cb ids) :
    Calls Tryz.prog 12 #[.slice A n c, .slice B nb cb] w fun e w' => e = .returned (.bool (enoughB l ids)) ∧ Below w.heap.size w w' := by
  have hn := hl.le
  have HL := Lib.hid hl
  have HI := Lib.hid hi
  have H0 := Lib.hid hl.1
  clear hl hi
  have HVO : ∀ wx : World, RdL valC 2 wx wx.heap.size A n c l → Hid (Calls Tryz.prog 46 #[.slice A n c] wx fun e w' => e = .returned (.bool (valsB l)) ∧ Below wx.heap.size wx w') := fun wx h => sValsOk_any A n c l wx h
  cases hv : valsB l
  · have HE : Hid (enoughB l ids = false) := Lib.hid (enough_bad hv)
    rw [hv] at HVO
    clear hv
    go_enter Tryz.func12, Tryz.ntmps12
    go_wp2_with fail
    go_loopw [5, 6] (fun s i wr => s = .int .i64 0 ∧ i = .int .i64 0 ∧ Below w.heap.size w wr) (fun _ i _ => n - (intOf i).toNat)
    case atStart => exact ⟨rfl, rfl, Below.refl _ _⟩
    case round =>
      obtain ⟨rfl, rfl, hb⟩ := hrel
      have HB := Lib.hid hb
      have HR := Lib.hid ((HL.out.below hb (Nat.le_refl _)).more hb.size)
      clear hb
      by_cases hn0 : 0 < n
      · go_wp2_with fail
        refine ((HVO _ HR.out).out).mono ?_
        rintro e w2 ⟨rfl, hb2⟩
        have HB2 := Lib.hid (HB.out.trans (hb2.mono HB.out.size))
        have HR2 := Lib.hid ((HR.out.below hb2 (Nat.le_refl _)).more hb2.size)
        clear hb2
        go_wp2_with fail
        refine ((HVO _ HR2.out).out).mono ?_
        rintro e w3 ⟨rfl, hb2⟩
        go_wp2_with fail
        go_ret
        exact ⟨by rw [HE.out]; rfl, HB2.out.trans (hb2.mono HB2.out.size)⟩
      · go_wp2_with fail
        refine ((HVO _ HR.out).out).mono ?_
        rintro e w2 ⟨rfl, hb2⟩
        go_wp2_with fail
        go_ret
        exact ⟨by rw [HE.out]; rfl, HB.out.trans (hb2.mono HB.out.size)⟩
  · have HE : Hid (enoughB l ids = decide (2 * powL l < 3 * sumP (hasI ids) l)) := Lib.hid (enough_ok hv)
    have HPO : ∀ wx : World, RdL valC 2 wx wx.heap.size A n c l → Hid (Calls Tryz.prog 51 #[.slice A n c] wx fun e w' => e = .returned (.int .i64 (powL l)) ∧ Below wx.heap.size wx w') := fun wx h => sPowerOf_any A n c l wx h
    obtain ⟨q0, q1⟩ := powL_bd l
    obtain ⟨g0, g1⟩ := sumP_bd (f := hasI ids) hv
    have HV := Lib.hid hv
    have h7 := (valsB_len hv).2
    have hn7 : n ≤ 7 := by rw [← H0.out]; exact h7
    rw [hv] at HVO
    clear hv h7
    go_enter Tryz.func12, Tryz.ntmps12
    go_wp2_with fail
    go_loopw [5, 6] (fun s i wr => ∃ k : Nat, k ≤ n ∧ i = .int .i64 k ∧ s = .int .i64 (sumK (hasI ids) l k) ∧ Below w.heap.size w wr) (fun _ i _ => n - (intOf i).toNat)
    case atStart => exact ⟨0, by omega, rfl, by rw [sumK_zero], Below.refl _ _⟩
    case round =>
      obtain ⟨k, hk, rfl, rfl, hb⟩ := hrel
      have HB := Lib.hid hb
      have HR := Lib.hid ((HL.out.below hb (Nat.le_refl _)).more hb.size)
      have hz := hb.size
      clear hb
      by_cases hkn : k < n
      · obtain ⟨b, off, p, rfl, hb1, hp, c0, c1⟩ := val_cells (HL.out.below HB.out (Nat.le_refl _)) hkn
        have HS := Lib.hid (sumK_succ (f := hasI ids) hp)
        obtain ⟨p0, p1⟩ := valsB_pw HV.out hp
        obtain ⟨s0, s1⟩ := sumK_bd (f := hasI ids) HV.out (k := k) (by rw [H0.out]; omega)
        clear hp
        generalize sumK (hasI ids) l k = sm at *
        have hbo : b < wr.heap.size := by omega
        go_wp2_with fail
        refine ((HVO _ HR.out).out).mono ?_
        rintro e w2 ⟨rfl, hb2⟩
        have hz2 := hb2.size
        have d0 := (hb2.cell (p := ⟨b, off + k * 2, none⟩) hbo).trans c0
        have d1 := (hb2.cell (p := ⟨b, off + k * 2 + 1, none⟩) hbo).trans c1
        have hbo2 : b < w2.heap.size := by omega
        have HB2 := Lib.hid (HB.out.trans (hb2.mono hz))
        clear hb2 c0 c1
        have k0 : (0 : Int) ≤ k := by omega
        have k1 : (k : Int) < n := by omega
        go_wp2_with fail
        refine (l6Has_any B nb cb ids p.id _ ((HI.out.below HB2.out (Nat.le_refl _)).more HB2.out.size)).mono ?_
        rintro e w3 ⟨rfl, hb3⟩
        have e1 := (hb3.cell (p := ⟨b, off + k * 2 + 1, none⟩) hbo2).trans d1
        have hbo3 : b < w3.heap.size := by have := hb3.size; omega
        have HB3 := Lib.hid (HB2.out.trans (hb3.mono HB2.out.size))
        clear hb3 d0 d1
        cases hq : hasI ids p.id
        all_goals
          have HQ := Lib.hid hq
          clear hq
          go_wp2_with fail
          go_roundw
          case rel => exact ⟨k + 1, by omega, by go_num, by rw [HS.out, HQ.out]; simp, HB3.out⟩
          case measure => simp [intOf]; omega
      · obtain rfl : k = n := by omega
        have HE2 : Hid (sumK (hasI ids) l k = sumP (hasI ids) l) := by show _ = _; rw [← H0.out]; exact sumK_all _ _
        rw [HE2.out]
        generalize powL l = pw at *
        generalize sumP (hasI ids) l = sm at *
        go_wp2_with fail
        refine ((HVO _ HR.out).out).mono ?_
        rintro e w2 ⟨rfl, hb2⟩
        have HB2 := Lib.hid (HB.out.trans (hb2.mono hz))
        have HR2 := Lib.hid ((HR.out.below hb2 (Nat.le_refl _)).more hb2.size)
        clear hb2
        cases hq : decide (2 * pw < 3 * sm)
        all_goals
          have HQ := Lib.hid hq
          go_wp2_with fail
          refine ((HPO _ HR2.out).out).mono ?_
          rintro e w3 ⟨rfl, hb3⟩
          go_wp2_with fail
          go_ret
          exact ⟨by rw [HE.out, HQ.out]; rfl, HB2.out.trans (hb3.mono HB2.out.size)⟩
end Go.Proofs.YtelnnegfkdfpiaaGreatDoor
