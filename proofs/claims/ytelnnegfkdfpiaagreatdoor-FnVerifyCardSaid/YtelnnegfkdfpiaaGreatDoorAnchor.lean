/- AnchorOk of the program and of the reference; the family of small functions on Anchor. -/
import Derived.Test.YtelnnegfkdfpiaaGreatDoorVals
import Derived.Test.YtelnnegfkdfpiaaGreatDoorHead
import Derived.Test.YtelnnegfkdfpiaaGreatDoorChg
import Derived.Test.YtelnnegfkdfpiaaGreatDoorMkVal
import Derived.WalkKit
import Derived.WalkSpells
import Derived.WalkLawsBesides
import Derived.Lib.Hide
namespace Go.Proofs.YtelnnegfkdfpiaaGreatDoor
open Go.RowKit

def anchorB (p : HeaderD) (l : List ValD) : Bool := hdrB p && ((valsHashB l).toList == p.next.toList)
theorem anchor_bad {p : HeaderD} {l : List ValD} (h : hdrB p = true) (hv : valsB l = false) : anchorB p l = false := by
  have h8 : (p.next.size : Int) = 8 := by
    simp only [hdrB, Bool.and_eq_true, beq_iff_eq] at h
    exact h.1.1.2
  unfold anchorB
  rw [h, Bool.true_and, beq_eq_false_iff_ne]
  intro e
  have hl := congrArg List.length e
  have e1 : valsHashB l = ⟨#[]⟩ := by unfold valsHashB; rw [hv]; rfl
  rw [e1] at hl
  rw [ByteArray.toList_eq, ByteArray.toList_eq, ← size_list, ← size_list] at hl
  have e3 : (⟨#[]⟩ : ByteArray).size = 0 := rfl
  omega

set_option maxHeartbeats 2000000 in
theorem AnchorOk_any (p : HeaderD) (A : Option Addr) (n c : Nat) (l : List ValD) (w : World) (hl : RdL valC 2 w w.heap.size A n c l) (ht : Tab w) :
    Calls Tryz.prog 68 #[.agg #[.int .i64 p.h, .int .i64 p.t, .string p.last, .string p.vals, .string p.next, .string p.data, .slice A n c]] w fun e w' => e = .returned (.bool (anchorB p l)) ∧ Below w.heap.size w w' := by
  have HL := Lib.hid hl
  have HT := Lib.hid ht
  clear hl ht
  have HVH : ∀ wx : World, RdL valC 2 wx wx.heap.size A n c l → Tab wx → Hid (Calls Tryz.prog 73 #[.slice A n c] wx fun e w' => e = .returned (.string (valsHashB l)) ∧ Below wx.heap.size wx w') := fun wx h hx => ValsHash_any A n c l wx h hx
  have HE : Hid (anchorB p l = (hdrB p && ((valsHashB l).toList == p.next.toList))) := rfl
  generalize valsHashB l = vh at *
  cases hh : hdrB p
  all_goals
    have HHD : ∀ wx : World, Hid (Calls Tryz.prog 69 #[.agg #[.int .i64 p.h, .int .i64 p.t, .string p.last, .string p.vals, .string p.next, .string p.data]] wx fun e w' => e = .returned (.bool (hdrB p)) ∧ Below wx.heap.size wx w') := fun wx => HeaderOk_any p wx
    rw [hh] at HHD HE
    clear hh
    go_enter Tryz.func68, Tryz.ntmps68
    go_wp2_with fail
    have A0 : Blk (w.alloc (.cells #[.int .i64 p.h, .int .i64 p.t, .string p.last, .string p.vals, .string p.next, .string p.data, .slice A n c] 30)) w.heap.size 30 #[.int .i64 p.h, .int .i64 p.t, .string p.last, .string p.vals, .string p.next, .string p.data, .slice A n c] := heap_alloc_new w _
    have HB0 : Hid (Below w.heap.size w (w.alloc (.cells #[.int .i64 p.h, .int .i64 p.t, .string p.last, .string p.vals, .string p.next, .string p.data, .slice A n c] 30))) := (Below.refl _ _).alloc (Nat.le_refl _) _
    generalize w.alloc (.cells #[.int .i64 p.h, .int .i64 p.t, .string p.last, .string p.vals, .string p.next, .string p.data, .slice A n c] 30) = wb at *
    have hz : w.heap.size < wb.heap.size := A0.lt
    have t0 : wb.cell? ⟨w.heap.size, 0, none⟩ = some (.int .i64 p.h) := (A0.cell 0).trans rfl
    have t1 : wb.cell? ⟨w.heap.size, 1, none⟩ = some (.int .i64 p.t) := (A0.cell 1).trans rfl
    have t2 : wb.cell? ⟨w.heap.size, 2, none⟩ = some (.string p.last) := (A0.cell 2).trans rfl
    have t3 : wb.cell? ⟨w.heap.size, 3, none⟩ = some (.string p.vals) := (A0.cell 3).trans rfl
    have t4 : wb.cell? ⟨w.heap.size, 4, none⟩ = some (.string p.next) := (A0.cell 4).trans rfl
    have t5 : wb.cell? ⟨w.heap.size, 5, none⟩ = some (.string p.data) := (A0.cell 5).trans rfl
    have t6 : wb.cell? ⟨w.heap.size, 6, none⟩ = some (.slice A n c) := (A0.cell 6).trans rfl
    have HRB := Lib.hid ((HL.out.below HB0.out (Nat.le_refl _)).more HB0.out.size)
    clear A0
    refine wp_region_below (by kernel_rfl) (by kernel_rfl) ?_
    repeat (first | go_big_quiet_skip | (go_big_quiet_want; go_big_quiet_op; first | go_big_quiet_on | (apply Exists.intro; refine ⟨fun w1 hC => ?_, ?_⟩; (focus (first | rfl | (go_at_call 69; exact quiet_below hC ((HHD _).out)) | (go_at_call 73; exact quiet_below hC ((HVH _ (by exact (HRB.out.below hC (Nat.le_refl _)).more hC.size) (by exact (HT.out.below HB0.out HT.out.pos).below hC (by omega))).out)) | (simp [(bcell hC).1, hz, t0, t1, t2, t3, t4, t5, t6]; done) | (simp [(bcell hC).1, hz, t0, t1, t2, t3, t4, t5, t6]; rfl))); go_big_quiet_on)))
    refine wpQuiet_nil ?_
    intro w2 hb2
    obtain ⟨hc2, hf2, hz2⟩ := bcell hb2
    go_wp2
    go_ret
    exact ⟨by rw [HE.out]; rfl, HB0.out.trans (hb2.mono HB0.out.size)⟩
set_option maxHeartbeats 2000000 in
theorem sAnchorOk_any (p : HeaderD) (A : Option Addr) (n c : Nat) (l : List ValD) (w : World) (hl : RdL valC 2 w w.heap.size A n c l) :
    Calls Tryz.prog 10 #[.agg #[.int .i64 p.h, .int .i64 p.t, .string p.last, .string p.vals, .string p.next, .string p.data, .slice A n c]] w fun e w' => e = .returned (.bool (anchorB p l)) ∧ Below w.heap.size w w' := by
  have HL := Lib.hid hl
  clear hl
  have HVH : ∀ wx : World, RdL valC 2 wx wx.heap.size A n c l → Hid (Calls Tryz.prog 47 #[.slice A n c] wx fun e w' => e = .returned (.string (valsHashB l)) ∧ Below wx.heap.size wx w') := fun wx h => sValsHash_any A n c l wx h
  have HVO : ∀ wx : World, RdL valC 2 wx wx.heap.size A n c l → Hid (Calls Tryz.prog 46 #[.slice A n c] wx fun e w' => e = .returned (.bool (valsB l)) ∧ Below wx.heap.size wx w') := fun wx h => sValsOk_any A n c l wx h
  have HE : Hid (anchorB p l = (hdrB p && (valsB l && ((valsHashB l).toList == p.next.toList)))) := by
    show _ = _
    cases h1 : hdrB p
    · simp [anchorB, h1]
    · cases h2 : valsB l
      · rw [anchor_bad h1 h2]; rfl
      · simp [anchorB, h1]
  generalize valsHashB l = vh at *
  cases hh : hdrB p
  all_goals cases hv : valsB l
  all_goals
    have HHD : ∀ wx : World, Hid (Calls Tryz.prog 42 #[.agg #[.int .i64 p.h, .int .i64 p.t, .string p.last, .string p.vals, .string p.next, .string p.data]] wx fun e w' => e = .returned (.bool (hdrB p)) ∧ Below wx.heap.size wx w') := fun wx => sHeaderOk_any p wx
    rw [hh] at HHD HE
    rw [hv] at HVO HE
    clear hh hv
    go_enter Tryz.func10, Tryz.ntmps10
    go_wp2_with fail
    have A0 : Blk (w.alloc (.cells #[.int .i64 p.h, .int .i64 p.t, .string p.last, .string p.vals, .string p.next, .string p.data, .slice A n c] 30)) w.heap.size 30 #[.int .i64 p.h, .int .i64 p.t, .string p.last, .string p.vals, .string p.next, .string p.data, .slice A n c] := heap_alloc_new w _
    have HB0 : Hid (Below w.heap.size w (w.alloc (.cells #[.int .i64 p.h, .int .i64 p.t, .string p.last, .string p.vals, .string p.next, .string p.data, .slice A n c] 30))) := (Below.refl _ _).alloc (Nat.le_refl _) _
    generalize w.alloc (.cells #[.int .i64 p.h, .int .i64 p.t, .string p.last, .string p.vals, .string p.next, .string p.data, .slice A n c] 30) = wb at *
    have hz : w.heap.size < wb.heap.size := A0.lt
    have t0 : wb.cell? ⟨w.heap.size, 0, none⟩ = some (.int .i64 p.h) := (A0.cell 0).trans rfl
    have t1 : wb.cell? ⟨w.heap.size, 1, none⟩ = some (.int .i64 p.t) := (A0.cell 1).trans rfl
    have t2 : wb.cell? ⟨w.heap.size, 2, none⟩ = some (.string p.last) := (A0.cell 2).trans rfl
    have t3 : wb.cell? ⟨w.heap.size, 3, none⟩ = some (.string p.vals) := (A0.cell 3).trans rfl
    have t4 : wb.cell? ⟨w.heap.size, 4, none⟩ = some (.string p.next) := (A0.cell 4).trans rfl
    have t5 : wb.cell? ⟨w.heap.size, 5, none⟩ = some (.string p.data) := (A0.cell 5).trans rfl
    have t6 : wb.cell? ⟨w.heap.size, 6, none⟩ = some (.slice A n c) := (A0.cell 6).trans rfl
    have HRB := Lib.hid ((HL.out.below HB0.out (Nat.le_refl _)).more HB0.out.size)
    clear A0
    refine wp_region_below (by kernel_rfl) (by kernel_rfl) ?_
    repeat (first | go_big_quiet_skip | (go_big_quiet_want; go_big_quiet_op; first | go_big_quiet_on | (apply Exists.intro; refine ⟨fun w1 hC => ?_, ?_⟩; (focus (first | rfl | (go_at_call 42; exact quiet_below hC ((HHD _).out)) | (go_at_call 46; exact quiet_below hC ((HVO _ (by exact (HRB.out.below hC (Nat.le_refl _)).more hC.size)).out)) | (go_at_call 47; exact quiet_below hC ((HVH _ (by exact (HRB.out.below hC (Nat.le_refl _)).more hC.size)).out)) | (simp [(bcell hC).1, hz, t0, t1, t2, t3, t4, t5, t6]; done) | (simp [(bcell hC).1, hz, t0, t1, t2, t3, t4, t5, t6]; rfl))); go_big_quiet_on)))
    refine wpQuiet_nil ?_
    intro w2 hb2
    obtain ⟨hc2, hf2, hz2⟩ := bcell hb2
    go_wp2
    go_ret
    exact ⟨by rw [HE.out]; rfl, HB0.out.trans (hb2.mono HB0.out.size)⟩
end Go.Proofs.YtelnnegfkdfpiaaGreatDoor
