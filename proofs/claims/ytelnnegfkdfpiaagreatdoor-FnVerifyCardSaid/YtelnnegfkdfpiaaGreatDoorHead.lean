/- Headers: HeaderOk, ShowHeader, HeadId, of the program and of the reference (printed by wip/head.py). -/
import Derived.Test.YtelnnegfkdfpiaaGreatDoorSign
import Derived.Test.YtelnnegfkdfpiaaGreatDoorFamHeader
import Derived.WalkKit
import Derived.WalkSpells
import Derived.WalkLawsBesides
import Derived.Lib.Hide
namespace Go.Proofs.YtelnnegfkdfpiaaGreatDoor
open Go.RowKit

def hdrL (h : Int) : Int := if h = 1 then 0 else 8
def hdrB (p : HeaderD) : Bool := inB p.h 1 1000000 && inB p.t 0 1000000 && ((p.vals.size : Int) == 8) && ((p.next.size : Int) == 8) && ((p.last.size : Int) == hdrL p.h) && decide ((p.data.size : Int) ≤ 20)
def pieceL (s : ByteArray) : List UInt8 := varL s.size ++ s.data.toList
theorem pieceL_len (s : ByteArray) : (pieceL s).length ≤ s.size + 7 := by
  have h := varL_len (s.size : Int)
  rw [size_list]
  rw [size_list] at h
  unfold pieceL
  rw [List.length_append, size_list]
  omega
def showL (p : HeaderD) : List UInt8 := if hdrB p = true then varL p.h ++ varL p.t ++ pieceL p.last ++ pieceL p.vals ++ pieceL p.next ++ pieceL p.data else []
theorem hdrB_sizes {p : HeaderD} (h : hdrB p = true) : p.last.size ≤ 8 ∧ p.vals.size ≤ 8 ∧ p.next.size ≤ 8 ∧ p.data.size ≤ 20 ∧ 1 ≤ p.h ∧ p.h ≤ 1000000 := by
  simp only [hdrB, Bool.and_eq_true, beq_iff_eq, decide_eq_true_eq, inB_iff] at h
  obtain ⟨⟨⟨⟨⟨h1, h2⟩, h3⟩, h4⟩, h5⟩, h6⟩ := h
  have h7 : hdrL p.h ≤ 8 := by unfold hdrL; split <;> omega
  omega
theorem showL_len (p : HeaderD) : (showL p).length ≤ 1000 := by
  unfold showL
  split
  · rename_i h
    obtain ⟨h1, h2, h3, h4, _⟩ := hdrB_sizes h
    have a1 := varL_len p.h; have a2 := varL_len p.t
    have a3 := pieceL_len p.last; have a4 := pieceL_len p.vals; have a5 := pieceL_len p.next; have a6 := pieceL_len p.data
    simp only [List.length_append]
    omega
  · simp
def headIdB (p : HeaderD) : ByteArray := if hdrB p = true then ⟨(shortL (showL p)).toArray⟩ else ⟨#[]⟩

theorem sized_any (s : ByteArray) (w : World) (hs : s.size ≤ 1048576) :
    Calls Tryz.prog 101 #[.string s] w fun e w' => e = .returned (.string ⟨(pieceL s).toArray⟩) ∧ Below w.heap.size w w' := by
  have hv := varL_len (s.size : Int)
  have HC : Hid ((⟨(varL (s.size : Int)).toArray⟩ : ByteArray) ++ s = ⟨(pieceL s).toArray⟩) := by show _ = _; unfold pieceL; rw [← bcat, ← list_bytes]
  go_enter Tryz.func101, Tryz.ntmps101
  go_wp2_with (go_at_call 100; (with_reducible refine (Var_any _ _).mono ?_); rintro e w1 ⟨rfl, hb⟩; obtain ⟨hc, hf, hz⟩ := bcell hb)
  go_ret
  exact ⟨by rw [← HC.out]; rfl, (by repeat (first | exact Below.refl _ _ | assumption | refine Below.drew ?_ | refine belN ?_ _ | refine Below.alloc ?_ (by first | exact Nat.le_refl _ | (simp; done) | (simp; omega) | omega) _ | refine Below.setCell ?_ (by first | exact Nat.le_refl _ | (simp; done) | (simp; omega) | omega) _ | refine Below.trans ?_ (Below.mono (by assumption) (by first | exact Nat.le_refl _ | (simp; done) | (simp; omega) | omega))))⟩
theorem l6Piece_any (s : ByteArray) (w : World) (hs : s.size ≤ 1048576) :
    Calls Tryz.prog 80 #[.string s] w fun e w' => e = .returned (.string ⟨(pieceL s).toArray⟩) ∧ Below w.heap.size w w' := by
  have hv := varL_len (s.size : Int)
  have HC : Hid ((⟨(varL (s.size : Int)).toArray⟩ : ByteArray) ++ s = ⟨(pieceL s).toArray⟩) := by show _ = _; unfold pieceL; rw [← bcat, ← list_bytes]
  go_enter Tryz.func80, Tryz.ntmps80
  go_wp2_with (go_at_call 79; (with_reducible refine (sVar_any _ _).mono ?_); rintro e w1 ⟨rfl, hb⟩; obtain ⟨hc, hf, hz⟩ := bcell hb)
  go_ret
  exact ⟨by rw [← HC.out]; rfl, (by repeat (first | exact Below.refl _ _ | assumption | refine Below.drew ?_ | refine belN ?_ _ | refine Below.alloc ?_ (by first | exact Nat.le_refl _ | (simp; done) | (simp; omega) | omega) _ | refine Below.setCell ?_ (by first | exact Nat.le_refl _ | (simp; done) | (simp; omega) | omega) _ | refine Below.trans ?_ (Below.mono (by assumption) (by first | exact Nat.le_refl _ | (simp; done) | (simp; omega) | omega))))⟩

set_option maxHeartbeats 1000000 in
theorem HeaderOk_any (p : HeaderD) (w : World) :
    Calls Tryz.prog 69 #[.agg #[.int .i64 p.h, .int .i64 p.t, .string p.last, .string p.vals, .string p.next, .string p.data]] w fun e w' => e = .returned (.bool (hdrB p)) ∧ Below w.heap.size w w' := by
  obtain ⟨h, t, last, vals, next, data⟩ := p
  by_cases h0 : h = 1
  · subst h0
    have h1 : inB 1 1 1000000 = true := by decide
    cases h2 : inB t 0 1000000
    · go_enter Tryz.func69, Tryz.ntmps69
      go_wp2_with (first | (go_at_call 89; (with_reducible refine (isHeight_any _ _).mono ?_); rintro e w' ⟨rfl, rfl⟩) | (go_at_call 70; (with_reducible refine (isTime_any _ _).mono ?_); rintro e w' ⟨rfl, rfl⟩))
      go_ret
      exact ⟨by simp [hdrB, hdrL, *], (by repeat (first | exact Below.refl _ _ | assumption | refine Below.drew ?_ | refine belN ?_ _ | refine Below.alloc ?_ (by first | exact Nat.le_refl _ | (simp; done) | (simp; omega) | omega) _ | refine Below.setCell ?_ (by first | exact Nat.le_refl _ | (simp; done) | (simp; omega) | omega) _ | refine Below.trans ?_ (Below.mono (by assumption) (by first | exact Nat.le_refl _ | (simp; done) | (simp; omega) | omega))))⟩
    · cases h3 : ((vals.size : Int) == 8)
      · go_enter Tryz.func69, Tryz.ntmps69
        go_wp2_with (first | (go_at_call 89; (with_reducible refine (isHeight_any _ _).mono ?_); rintro e w' ⟨rfl, rfl⟩) | (go_at_call 70; (with_reducible refine (isTime_any _ _).mono ?_); rintro e w' ⟨rfl, rfl⟩))
        go_ret
        exact ⟨by simp [hdrB, hdrL, *], (by repeat (first | exact Below.refl _ _ | assumption | refine Below.drew ?_ | refine belN ?_ _ | refine Below.alloc ?_ (by first | exact Nat.le_refl _ | (simp; done) | (simp; omega) | omega) _ | refine Below.setCell ?_ (by first | exact Nat.le_refl _ | (simp; done) | (simp; omega) | omega) _ | refine Below.trans ?_ (Below.mono (by assumption) (by first | exact Nat.le_refl _ | (simp; done) | (simp; omega) | omega))))⟩
      · cases h4 : ((next.size : Int) == 8)
        · go_enter Tryz.func69, Tryz.ntmps69
          go_wp2_with (first | (go_at_call 89; (with_reducible refine (isHeight_any _ _).mono ?_); rintro e w' ⟨rfl, rfl⟩) | (go_at_call 70; (with_reducible refine (isTime_any _ _).mono ?_); rintro e w' ⟨rfl, rfl⟩))
          go_ret
          exact ⟨by simp [hdrB, hdrL, *], (by repeat (first | exact Below.refl _ _ | assumption | refine Below.drew ?_ | refine belN ?_ _ | refine Below.alloc ?_ (by first | exact Nat.le_refl _ | (simp; done) | (simp; omega) | omega) _ | refine Below.setCell ?_ (by first | exact Nat.le_refl _ | (simp; done) | (simp; omega) | omega) _ | refine Below.trans ?_ (Below.mono (by assumption) (by first | exact Nat.le_refl _ | (simp; done) | (simp; omega) | omega))))⟩
        · cases h5 : ((last.size : Int) == 0)
          · go_enter Tryz.func69, Tryz.ntmps69
            go_wp2_with (first | (go_at_call 89; (with_reducible refine (isHeight_any _ _).mono ?_); rintro e w' ⟨rfl, rfl⟩) | (go_at_call 70; (with_reducible refine (isTime_any _ _).mono ?_); rintro e w' ⟨rfl, rfl⟩))
            go_ret
            exact ⟨by simp [hdrB, hdrL, *], (by repeat (first | exact Below.refl _ _ | assumption | refine Below.drew ?_ | refine belN ?_ _ | refine Below.alloc ?_ (by first | exact Nat.le_refl _ | (simp; done) | (simp; omega) | omega) _ | refine Below.setCell ?_ (by first | exact Nat.le_refl _ | (simp; done) | (simp; omega) | omega) _ | refine Below.trans ?_ (Below.mono (by assumption) (by first | exact Nat.le_refl _ | (simp; done) | (simp; omega) | omega))))⟩
          · go_enter Tryz.func69, Tryz.ntmps69
            go_wp2_with (first | (go_at_call 89; (with_reducible refine (isHeight_any _ _).mono ?_); rintro e w' ⟨rfl, rfl⟩) | (go_at_call 70; (with_reducible refine (isTime_any _ _).mono ?_); rintro e w' ⟨rfl, rfl⟩))
            go_ret
            exact ⟨by simp [hdrB, hdrL, *], (by repeat (first | exact Below.refl _ _ | assumption | refine Below.drew ?_ | refine belN ?_ _ | refine Below.alloc ?_ (by first | exact Nat.le_refl _ | (simp; done) | (simp; omega) | omega) _ | refine Below.setCell ?_ (by first | exact Nat.le_refl _ | (simp; done) | (simp; omega) | omega) _ | refine Below.trans ?_ (Below.mono (by assumption) (by first | exact Nat.le_refl _ | (simp; done) | (simp; omega) | omega))))⟩
  · have h1' : hdrL h = 8 := if_neg h0
    cases h1 : inB h 1 1000000
    · go_enter Tryz.func69, Tryz.ntmps69
      go_wp2_with (first | (go_at_call 89; (with_reducible refine (isHeight_any _ _).mono ?_); rintro e w' ⟨rfl, rfl⟩) | (go_at_call 70; (with_reducible refine (isTime_any _ _).mono ?_); rintro e w' ⟨rfl, rfl⟩))
      go_ret
      exact ⟨by simp [hdrB, *], (by repeat (first | exact Below.refl _ _ | assumption | refine Below.drew ?_ | refine belN ?_ _ | refine Below.alloc ?_ (by first | exact Nat.le_refl _ | (simp; done) | (simp; omega) | omega) _ | refine Below.setCell ?_ (by first | exact Nat.le_refl _ | (simp; done) | (simp; omega) | omega) _ | refine Below.trans ?_ (Below.mono (by assumption) (by first | exact Nat.le_refl _ | (simp; done) | (simp; omega) | omega))))⟩
    · cases h2 : inB t 0 1000000
      · go_enter Tryz.func69, Tryz.ntmps69
        go_wp2_with (first | (go_at_call 89; (with_reducible refine (isHeight_any _ _).mono ?_); rintro e w' ⟨rfl, rfl⟩) | (go_at_call 70; (with_reducible refine (isTime_any _ _).mono ?_); rintro e w' ⟨rfl, rfl⟩))
        go_ret
        exact ⟨by simp [hdrB, *], (by repeat (first | exact Below.refl _ _ | assumption | refine Below.drew ?_ | refine belN ?_ _ | refine Below.alloc ?_ (by first | exact Nat.le_refl _ | (simp; done) | (simp; omega) | omega) _ | refine Below.setCell ?_ (by first | exact Nat.le_refl _ | (simp; done) | (simp; omega) | omega) _ | refine Below.trans ?_ (Below.mono (by assumption) (by first | exact Nat.le_refl _ | (simp; done) | (simp; omega) | omega))))⟩
      · cases h3 : ((vals.size : Int) == 8)
        · go_enter Tryz.func69, Tryz.ntmps69
          go_wp2_with (first | (go_at_call 89; (with_reducible refine (isHeight_any _ _).mono ?_); rintro e w' ⟨rfl, rfl⟩) | (go_at_call 70; (with_reducible refine (isTime_any _ _).mono ?_); rintro e w' ⟨rfl, rfl⟩))
          go_ret
          exact ⟨by simp [hdrB, *], (by repeat (first | exact Below.refl _ _ | assumption | refine Below.drew ?_ | refine belN ?_ _ | refine Below.alloc ?_ (by first | exact Nat.le_refl _ | (simp; done) | (simp; omega) | omega) _ | refine Below.setCell ?_ (by first | exact Nat.le_refl _ | (simp; done) | (simp; omega) | omega) _ | refine Below.trans ?_ (Below.mono (by assumption) (by first | exact Nat.le_refl _ | (simp; done) | (simp; omega) | omega))))⟩
        · cases h4 : ((next.size : Int) == 8)
          · go_enter Tryz.func69, Tryz.ntmps69
            go_wp2_with (first | (go_at_call 89; (with_reducible refine (isHeight_any _ _).mono ?_); rintro e w' ⟨rfl, rfl⟩) | (go_at_call 70; (with_reducible refine (isTime_any _ _).mono ?_); rintro e w' ⟨rfl, rfl⟩))
            go_ret
            exact ⟨by simp [hdrB, *], (by repeat (first | exact Below.refl _ _ | assumption | refine Below.drew ?_ | refine belN ?_ _ | refine Below.alloc ?_ (by first | exact Nat.le_refl _ | (simp; done) | (simp; omega) | omega) _ | refine Below.setCell ?_ (by first | exact Nat.le_refl _ | (simp; done) | (simp; omega) | omega) _ | refine Below.trans ?_ (Below.mono (by assumption) (by first | exact Nat.le_refl _ | (simp; done) | (simp; omega) | omega))))⟩
          · cases h5 : ((last.size : Int) == 8)
            · go_enter Tryz.func69, Tryz.ntmps69
              go_wp2_with (first | (go_at_call 89; (with_reducible refine (isHeight_any _ _).mono ?_); rintro e w' ⟨rfl, rfl⟩) | (go_at_call 70; (with_reducible refine (isTime_any _ _).mono ?_); rintro e w' ⟨rfl, rfl⟩))
              go_ret
              exact ⟨by simp [hdrB, *], (by repeat (first | exact Below.refl _ _ | assumption | refine Below.drew ?_ | refine belN ?_ _ | refine Below.alloc ?_ (by first | exact Nat.le_refl _ | (simp; done) | (simp; omega) | omega) _ | refine Below.setCell ?_ (by first | exact Nat.le_refl _ | (simp; done) | (simp; omega) | omega) _ | refine Below.trans ?_ (Below.mono (by assumption) (by first | exact Nat.le_refl _ | (simp; done) | (simp; omega) | omega))))⟩
            · go_enter Tryz.func69, Tryz.ntmps69
              go_wp2_with (first | (go_at_call 89; (with_reducible refine (isHeight_any _ _).mono ?_); rintro e w' ⟨rfl, rfl⟩) | (go_at_call 70; (with_reducible refine (isTime_any _ _).mono ?_); rintro e w' ⟨rfl, rfl⟩))
              go_ret
              exact ⟨by simp [hdrB, *], (by repeat (first | exact Below.refl _ _ | assumption | refine Below.drew ?_ | refine belN ?_ _ | refine Below.alloc ?_ (by first | exact Nat.le_refl _ | (simp; done) | (simp; omega) | omega) _ | refine Below.setCell ?_ (by first | exact Nat.le_refl _ | (simp; done) | (simp; omega) | omega) _ | refine Below.trans ?_ (Below.mono (by assumption) (by first | exact Nat.le_refl _ | (simp; done) | (simp; omega) | omega))))⟩
set_option maxHeartbeats 1000000 in
theorem ShowHeader_any (p : HeaderD) (w : World) :
    Calls Tryz.prog 91 #[.agg #[.int .i64 p.h, .int .i64 p.t, .string p.last, .string p.vals, .string p.next, .string p.data]] w fun e w' => e = .returned (.string ⟨(showL p).toArray⟩) ∧ Below w.heap.size w w' := by
  cases hv : hdrB p
  · have HE : Hid (showL p = []) := by show _ = _; unfold showL; rw [hv]; rfl
    go_enter Tryz.func91, Tryz.ntmps91
    go_wp2_with (go_at_call 69; (with_reducible refine (HeaderOk_any p _).mono ?_); rintro e w1 ⟨rfl, hb⟩)
    go_ret
    exact ⟨by rw [HE.out]; rfl, ((Below.refl _ _).alloc (Nat.le_refl _) _).trans (hb.mono (by rw [World.size_alloc]; omega))⟩
  · have HE : Hid (showL p = varL p.h ++ varL p.t ++ pieceL p.last ++ pieceL p.vals ++ pieceL p.next ++ pieceL p.data) := by show _ = _; unfold showL; rw [hv]; rfl
    obtain ⟨s1, s2, s3, s4, _, _⟩ := hdrB_sizes hv
    have S1 : Hid (p.last.size ≤ 1048576) := by show _ ≤ _; omega
    have S2 : Hid (p.vals.size ≤ 1048576) := by show _ ≤ _; omega
    have S3 : Hid (p.next.size ≤ 1048576) := by show _ ≤ _; omega
    have S4 : Hid (p.data.size ≤ 1048576) := by show _ ≤ _; omega
    have L1 := varL_len p.h; have L2 := varL_len p.t
    have L3 := pieceL_len p.last; have L4 := pieceL_len p.vals; have L5 := pieceL_len p.next; have L6 := pieceL_len p.data
    have HX : Hid ((⟨(varL p.h).toArray⟩ ++ ⟨(varL p.t).toArray⟩ ++ ⟨(pieceL p.last).toArray⟩ ++ ⟨(pieceL p.vals).toArray⟩ ++ ⟨(pieceL p.next).toArray⟩ ++ ⟨(pieceL p.data).toArray⟩ : ByteArray) = ⟨(varL p.h ++ varL p.t ++ pieceL p.last ++ pieceL p.vals ++ pieceL p.next ++ pieceL p.data).toArray⟩) := by
      show _ = _
      rw [← bcat, ← bcat, ← bcat, ← bcat, ← bcat]
    go_enter Tryz.func91, Tryz.ntmps91
    go_wp2_with (go_at_call 69; (with_reducible refine (HeaderOk_any p _).mono ?_); rintro e w1 ⟨rfl, hb⟩)
    have hz : w.heap.size < w1.heap.size := by have := hb.size; rw [World.size_alloc] at this; omega
    have A1 := Blk.below (heap_alloc_new w _) hb (by rw [World.size_alloc]; omega)
    have t0 : w1.cell? ⟨w.heap.size, 0, none⟩ = some (.int .i64 p.h) := (Blk.cell A1 0).trans rfl
    have t1 : w1.cell? ⟨w.heap.size, 1, none⟩ = some (.int .i64 p.t) := (Blk.cell A1 1).trans rfl
    have t2 : w1.cell? ⟨w.heap.size, 2, none⟩ = some (.string p.last) := (Blk.cell A1 2).trans rfl
    have t3 : w1.cell? ⟨w.heap.size, 3, none⟩ = some (.string p.vals) := (Blk.cell A1 3).trans rfl
    have t4 : w1.cell? ⟨w.heap.size, 4, none⟩ = some (.string p.next) := (Blk.cell A1 4).trans rfl
    have t5 : w1.cell? ⟨w.heap.size, 5, none⟩ = some (.string p.data) := (Blk.cell A1 5).trans rfl
    have HB := Lib.hid (((Below.refl w.heap.size w).alloc (Nat.le_refl _) _).trans (hb.mono (by rw [World.size_alloc]; omega)))
    clear hb A1
    go_wp2_with fail
    refine wp_region_below (by kernel_rfl) (by kernel_rfl) ?_
    repeat (first | go_big_quiet_skip | (go_big_quiet_want; go_big_quiet_op; first | go_big_quiet_on | (apply Exists.intro; refine ⟨fun w1 hC => ?_, ?_⟩; (focus (first | rfl | (go_at_call 100; exact quiet_below hC (Var_any _ _)) | (go_at_call 101; exact quiet_below hC (sized_any _ _ (by first | exact S1.out | exact S2.out | exact S3.out | exact S4.out))) | (simp [(bcell hC).1, hz, t0, t1, t2, t3, t4, t5]; done) | (simp [(bcell hC).1, hz, t0, t1, t2, t3, t4, t5]; rfl))); go_big_quiet_on)))
    refine wpQuiet_nil ?_
    intro w2 hb2
    obtain ⟨hc2, hf2, hz2⟩ := bcell hb2
    go_wp2
    go_ret
    exact ⟨by rw [HE.out, ← HX.out]; rfl, HB.out.trans (hb2.mono HB.out.size)⟩
set_option maxHeartbeats 1000000 in
theorem HeadId_any (p : HeaderD) (w : World) (ht : Tab w) :
    Calls Tryz.prog 72 #[.agg #[.int .i64 p.h, .int .i64 p.t, .string p.last, .string p.vals, .string p.next, .string p.data]] w fun e w' => e = .returned (.string (headIdB p)) ∧ Below w.heap.size w w' := by
  cases hv : hdrB p
  · have HE : Hid (headIdB p = ⟨#[]⟩) := by show _ = _; unfold headIdB; rw [hv]; rfl
    go_enter Tryz.func72, Tryz.ntmps72
    go_wp2_with (go_at_call 69; (with_reducible refine (HeaderOk_any p _).mono ?_); rintro e w1 ⟨rfl, hb⟩)
    go_ret
    exact ⟨by rw [HE.out]; rfl, ((Below.refl _ _).alloc (Nat.le_refl _) _).trans (hb.mono (by rw [World.size_alloc]; omega))⟩
  · have HE : Hid (headIdB p = ⟨(shortL (showL p)).toArray⟩) := by show _ = _; unfold headIdB; rw [hv]; rfl
    have HL : Hid ((⟨(showL p).toArray⟩ : ByteArray).size ≤ 2097152) := by show (showL p).length ≤ _; have := showL_len p; omega
    have HT := Lib.hid ht
    clear ht
    go_enter Tryz.func72, Tryz.ntmps72
    go_wp2_with fail
    refine (HeaderOk_any p _).mono ?_
    rintro e w1 ⟨rfl, hb⟩
    have hz : w.heap.size < w1.heap.size := by have := hb.size; rw [World.size_alloc] at this; omega
    have A1 := Blk.below (heap_alloc_new w _) hb (by rw [World.size_alloc]; omega)
    have t0 : w1.cell? ⟨w.heap.size, 0, none⟩ = some (.int .i64 p.h) := (Blk.cell A1 0).trans rfl
    have t1 : w1.cell? ⟨w.heap.size, 1, none⟩ = some (.int .i64 p.t) := (Blk.cell A1 1).trans rfl
    have t2 : w1.cell? ⟨w.heap.size, 2, none⟩ = some (.string p.last) := (Blk.cell A1 2).trans rfl
    have t3 : w1.cell? ⟨w.heap.size, 3, none⟩ = some (.string p.vals) := (Blk.cell A1 3).trans rfl
    have t4 : w1.cell? ⟨w.heap.size, 4, none⟩ = some (.string p.next) := (Blk.cell A1 4).trans rfl
    have t5 : w1.cell? ⟨w.heap.size, 5, none⟩ = some (.string p.data) := (Blk.cell A1 5).trans rfl
    have HB := Lib.hid (((Below.refl w.heap.size w).alloc (Nat.le_refl _) _).trans (hb.mono (by rw [World.size_alloc]; omega)))
    clear hb A1
    go_wp2_with fail
    refine (ShowHeader_any p _).mono ?_
    rintro e w2 ⟨rfl, hb2⟩
    have HB2 := Lib.hid (HB.out.trans (hb2.mono HB.out.size))
    clear hb2
    go_wp2_with fail
    refine (Short_any _ _ HL.out (by exact HT.out.below HB2.out HT.out.pos)).mono ?_
    rintro e w3 ⟨rfl, hb3⟩
    go_wp2_with fail
    go_ret
    exact ⟨by rw [HE.out]; rfl, HB2.out.trans (hb3.mono HB2.out.size)⟩

set_option maxHeartbeats 1000000 in
theorem sHeaderOk_any (p : HeaderD) (w : World) :
    Calls Tryz.prog 42 #[.agg #[.int .i64 p.h, .int .i64 p.t, .string p.last, .string p.vals, .string p.next, .string p.data]] w fun e w' => e = .returned (.bool (hdrB p)) ∧ Below w.heap.size w w' := by
  obtain ⟨h, t, last, vals, next, data⟩ := p
  by_cases h0 : h = 1
  · subst h0
    have h1 : inB 1 1 1000000 = true := by decide
    cases h2 : inB t 0 1000000
    · go_enter Tryz.func42, Tryz.ntmps42
      go_wp2_with (go_at_call 75; (with_reducible refine (l1In_any _ _ _ _).mono ?_); rintro e w' ⟨rfl, rfl⟩)
      go_ret
      exact ⟨by simp [hdrB, hdrL, *], (by repeat (first | exact Below.refl _ _ | assumption | refine Below.drew ?_ | refine belN ?_ _ | refine Below.alloc ?_ (by first | exact Nat.le_refl _ | (simp; done) | (simp; omega) | omega) _ | refine Below.setCell ?_ (by first | exact Nat.le_refl _ | (simp; done) | (simp; omega) | omega) _ | refine Below.trans ?_ (Below.mono (by assumption) (by first | exact Nat.le_refl _ | (simp; done) | (simp; omega) | omega))))⟩
    · cases h3 : ((vals.size : Int) == 8)
      · go_enter Tryz.func42, Tryz.ntmps42
        go_wp2_with (go_at_call 75; (with_reducible refine (l1In_any _ _ _ _).mono ?_); rintro e w' ⟨rfl, rfl⟩)
        go_ret
        exact ⟨by simp [hdrB, hdrL, *], (by repeat (first | exact Below.refl _ _ | assumption | refine Below.drew ?_ | refine belN ?_ _ | refine Below.alloc ?_ (by first | exact Nat.le_refl _ | (simp; done) | (simp; omega) | omega) _ | refine Below.setCell ?_ (by first | exact Nat.le_refl _ | (simp; done) | (simp; omega) | omega) _ | refine Below.trans ?_ (Below.mono (by assumption) (by first | exact Nat.le_refl _ | (simp; done) | (simp; omega) | omega))))⟩
      · cases h4 : ((next.size : Int) == 8)
        · go_enter Tryz.func42, Tryz.ntmps42
          go_wp2_with (go_at_call 75; (with_reducible refine (l1In_any _ _ _ _).mono ?_); rintro e w' ⟨rfl, rfl⟩)
          go_ret
          exact ⟨by simp [hdrB, hdrL, *], (by repeat (first | exact Below.refl _ _ | assumption | refine Below.drew ?_ | refine belN ?_ _ | refine Below.alloc ?_ (by first | exact Nat.le_refl _ | (simp; done) | (simp; omega) | omega) _ | refine Below.setCell ?_ (by first | exact Nat.le_refl _ | (simp; done) | (simp; omega) | omega) _ | refine Below.trans ?_ (Below.mono (by assumption) (by first | exact Nat.le_refl _ | (simp; done) | (simp; omega) | omega))))⟩
        · cases h5 : ((last.size : Int) == 0)
          · go_enter Tryz.func42, Tryz.ntmps42
            go_wp2_with (go_at_call 75; (with_reducible refine (l1In_any _ _ _ _).mono ?_); rintro e w' ⟨rfl, rfl⟩)
            go_ret
            exact ⟨by simp [hdrB, hdrL, *], (by repeat (first | exact Below.refl _ _ | assumption | refine Below.drew ?_ | refine belN ?_ _ | refine Below.alloc ?_ (by first | exact Nat.le_refl _ | (simp; done) | (simp; omega) | omega) _ | refine Below.setCell ?_ (by first | exact Nat.le_refl _ | (simp; done) | (simp; omega) | omega) _ | refine Below.trans ?_ (Below.mono (by assumption) (by first | exact Nat.le_refl _ | (simp; done) | (simp; omega) | omega))))⟩
          · go_enter Tryz.func42, Tryz.ntmps42
            go_wp2_with (go_at_call 75; (with_reducible refine (l1In_any _ _ _ _).mono ?_); rintro e w' ⟨rfl, rfl⟩)
            go_ret
            exact ⟨by simp [hdrB, hdrL, *], (by repeat (first | exact Below.refl _ _ | assumption | refine Below.drew ?_ | refine belN ?_ _ | refine Below.alloc ?_ (by first | exact Nat.le_refl _ | (simp; done) | (simp; omega) | omega) _ | refine Below.setCell ?_ (by first | exact Nat.le_refl _ | (simp; done) | (simp; omega) | omega) _ | refine Below.trans ?_ (Below.mono (by assumption) (by first | exact Nat.le_refl _ | (simp; done) | (simp; omega) | omega))))⟩
  · have h1' : hdrL h = 8 := if_neg h0
    cases h1 : inB h 1 1000000
    · go_enter Tryz.func42, Tryz.ntmps42
      go_wp2_with (go_at_call 75; (with_reducible refine (l1In_any _ _ _ _).mono ?_); rintro e w' ⟨rfl, rfl⟩)
      go_ret
      exact ⟨by simp [hdrB, *], (by repeat (first | exact Below.refl _ _ | assumption | refine Below.drew ?_ | refine belN ?_ _ | refine Below.alloc ?_ (by first | exact Nat.le_refl _ | (simp; done) | (simp; omega) | omega) _ | refine Below.setCell ?_ (by first | exact Nat.le_refl _ | (simp; done) | (simp; omega) | omega) _ | refine Below.trans ?_ (Below.mono (by assumption) (by first | exact Nat.le_refl _ | (simp; done) | (simp; omega) | omega))))⟩
    · cases h2 : inB t 0 1000000
      · go_enter Tryz.func42, Tryz.ntmps42
        go_wp2_with (go_at_call 75; (with_reducible refine (l1In_any _ _ _ _).mono ?_); rintro e w' ⟨rfl, rfl⟩)
        go_ret
        exact ⟨by simp [hdrB, *], (by repeat (first | exact Below.refl _ _ | assumption | refine Below.drew ?_ | refine belN ?_ _ | refine Below.alloc ?_ (by first | exact Nat.le_refl _ | (simp; done) | (simp; omega) | omega) _ | refine Below.setCell ?_ (by first | exact Nat.le_refl _ | (simp; done) | (simp; omega) | omega) _ | refine Below.trans ?_ (Below.mono (by assumption) (by first | exact Nat.le_refl _ | (simp; done) | (simp; omega) | omega))))⟩
      · cases h3 : ((vals.size : Int) == 8)
        · go_enter Tryz.func42, Tryz.ntmps42
          go_wp2_with (go_at_call 75; (with_reducible refine (l1In_any _ _ _ _).mono ?_); rintro e w' ⟨rfl, rfl⟩)
          go_ret
          exact ⟨by simp [hdrB, *], (by repeat (first | exact Below.refl _ _ | assumption | refine Below.drew ?_ | refine belN ?_ _ | refine Below.alloc ?_ (by first | exact Nat.le_refl _ | (simp; done) | (simp; omega) | omega) _ | refine Below.setCell ?_ (by first | exact Nat.le_refl _ | (simp; done) | (simp; omega) | omega) _ | refine Below.trans ?_ (Below.mono (by assumption) (by first | exact Nat.le_refl _ | (simp; done) | (simp; omega) | omega))))⟩
        · cases h4 : ((next.size : Int) == 8)
          · go_enter Tryz.func42, Tryz.ntmps42
            go_wp2_with (go_at_call 75; (with_reducible refine (l1In_any _ _ _ _).mono ?_); rintro e w' ⟨rfl, rfl⟩)
            go_ret
            exact ⟨by simp [hdrB, *], (by repeat (first | exact Below.refl _ _ | assumption | refine Below.drew ?_ | refine belN ?_ _ | refine Below.alloc ?_ (by first | exact Nat.le_refl _ | (simp; done) | (simp; omega) | omega) _ | refine Below.setCell ?_ (by first | exact Nat.le_refl _ | (simp; done) | (simp; omega) | omega) _ | refine Below.trans ?_ (Below.mono (by assumption) (by first | exact Nat.le_refl _ | (simp; done) | (simp; omega) | omega))))⟩
          · cases h5 : ((last.size : Int) == 8)
            · go_enter Tryz.func42, Tryz.ntmps42
              go_wp2_with (go_at_call 75; (with_reducible refine (l1In_any _ _ _ _).mono ?_); rintro e w' ⟨rfl, rfl⟩)
              go_ret
              exact ⟨by simp [hdrB, *], (by repeat (first | exact Below.refl _ _ | assumption | refine Below.drew ?_ | refine belN ?_ _ | refine Below.alloc ?_ (by first | exact Nat.le_refl _ | (simp; done) | (simp; omega) | omega) _ | refine Below.setCell ?_ (by first | exact Nat.le_refl _ | (simp; done) | (simp; omega) | omega) _ | refine Below.trans ?_ (Below.mono (by assumption) (by first | exact Nat.le_refl _ | (simp; done) | (simp; omega) | omega))))⟩
            · go_enter Tryz.func42, Tryz.ntmps42
              go_wp2_with (go_at_call 75; (with_reducible refine (l1In_any _ _ _ _).mono ?_); rintro e w' ⟨rfl, rfl⟩)
              go_ret
              exact ⟨by simp [hdrB, *], (by repeat (first | exact Below.refl _ _ | assumption | refine Below.drew ?_ | refine belN ?_ _ | refine Below.alloc ?_ (by first | exact Nat.le_refl _ | (simp; done) | (simp; omega) | omega) _ | refine Below.setCell ?_ (by first | exact Nat.le_refl _ | (simp; done) | (simp; omega) | omega) _ | refine Below.trans ?_ (Below.mono (by assumption) (by first | exact Nat.le_refl _ | (simp; done) | (simp; omega) | omega))))⟩
set_option maxHeartbeats 1000000 in
theorem sShowHeader_any (p : HeaderD) (w : World) :
    Calls Tryz.prog 49 #[.agg #[.int .i64 p.h, .int .i64 p.t, .string p.last, .string p.vals, .string p.next, .string p.data]] w fun e w' => e = .returned (.string ⟨(showL p).toArray⟩) ∧ Below w.heap.size w w' := by
  cases hv : hdrB p
  · have HE : Hid (showL p = []) := by show _ = _; unfold showL; rw [hv]; rfl
    go_enter Tryz.func49, Tryz.ntmps49
    go_wp2_with (go_at_call 42; (with_reducible refine (sHeaderOk_any p _).mono ?_); rintro e w1 ⟨rfl, hb⟩)
    go_ret
    exact ⟨by rw [HE.out]; rfl, ((Below.refl _ _).alloc (Nat.le_refl _) _).trans (hb.mono (by rw [World.size_alloc]; omega))⟩
  · have HE : Hid (showL p = varL p.h ++ varL p.t ++ pieceL p.last ++ pieceL p.vals ++ pieceL p.next ++ pieceL p.data) := by show _ = _; unfold showL; rw [hv]; rfl
    obtain ⟨s1, s2, s3, s4, _, _⟩ := hdrB_sizes hv
    have S1 : Hid (p.last.size ≤ 1048576) := by show _ ≤ _; omega
    have S2 : Hid (p.vals.size ≤ 1048576) := by show _ ≤ _; omega
    have S3 : Hid (p.next.size ≤ 1048576) := by show _ ≤ _; omega
    have S4 : Hid (p.data.size ≤ 1048576) := by show _ ≤ _; omega
    have L1 := varL_len p.h; have L2 := varL_len p.t
    have L3 := pieceL_len p.last; have L4 := pieceL_len p.vals; have L5 := pieceL_len p.next; have L6 := pieceL_len p.data
    have HX : Hid ((⟨(varL p.h).toArray⟩ ++ ⟨(varL p.t).toArray⟩ ++ ⟨(pieceL p.last).toArray⟩ ++ ⟨(pieceL p.vals).toArray⟩ ++ ⟨(pieceL p.next).toArray⟩ ++ ⟨(pieceL p.data).toArray⟩ : ByteArray) = ⟨(varL p.h ++ varL p.t ++ pieceL p.last ++ pieceL p.vals ++ pieceL p.next ++ pieceL p.data).toArray⟩) := by
      show _ = _
      rw [← bcat, ← bcat, ← bcat, ← bcat, ← bcat]
    go_enter Tryz.func49, Tryz.ntmps49
    go_wp2_with (go_at_call 42; (with_reducible refine (sHeaderOk_any p _).mono ?_); rintro e w1 ⟨rfl, hb⟩)
    have hz : w.heap.size < w1.heap.size := by have := hb.size; rw [World.size_alloc] at this; omega
    have A1 := Blk.below (heap_alloc_new w _) hb (by rw [World.size_alloc]; omega)
    have t0 : w1.cell? ⟨w.heap.size, 0, none⟩ = some (.int .i64 p.h) := (Blk.cell A1 0).trans rfl
    have t1 : w1.cell? ⟨w.heap.size, 1, none⟩ = some (.int .i64 p.t) := (Blk.cell A1 1).trans rfl
    have t2 : w1.cell? ⟨w.heap.size, 2, none⟩ = some (.string p.last) := (Blk.cell A1 2).trans rfl
    have t3 : w1.cell? ⟨w.heap.size, 3, none⟩ = some (.string p.vals) := (Blk.cell A1 3).trans rfl
    have t4 : w1.cell? ⟨w.heap.size, 4, none⟩ = some (.string p.next) := (Blk.cell A1 4).trans rfl
    have t5 : w1.cell? ⟨w.heap.size, 5, none⟩ = some (.string p.data) := (Blk.cell A1 5).trans rfl
    have HB := Lib.hid (((Below.refl w.heap.size w).alloc (Nat.le_refl _) _).trans (hb.mono (by rw [World.size_alloc]; omega)))
    clear hb A1
    go_wp2_with fail
    refine wp_region_below (by kernel_rfl) (by kernel_rfl) ?_
    repeat (first | go_big_quiet_skip | (go_big_quiet_want; go_big_quiet_op; first | go_big_quiet_on | (apply Exists.intro; refine ⟨fun w1 hC => ?_, ?_⟩; (focus (first | rfl | (go_at_call 79; exact quiet_below hC (sVar_any _ _)) | (go_at_call 80; exact quiet_below hC (l6Piece_any _ _ (by first | exact S1.out | exact S2.out | exact S3.out | exact S4.out))) | (simp [(bcell hC).1, hz, t0, t1, t2, t3, t4, t5]; done) | (simp [(bcell hC).1, hz, t0, t1, t2, t3, t4, t5]; rfl))); go_big_quiet_on)))
    refine wpQuiet_nil ?_
    intro w2 hb2
    obtain ⟨hc2, hf2, hz2⟩ := bcell hb2
    go_wp2
    go_ret
    exact ⟨by rw [HE.out, ← HX.out]; rfl, HB.out.trans (hb2.mono HB.out.size)⟩
set_option maxHeartbeats 1000000 in
theorem sHeadId_any (p : HeaderD) (w : World) :
    Calls Tryz.prog 11 #[.agg #[.int .i64 p.h, .int .i64 p.t, .string p.last, .string p.vals, .string p.next, .string p.data]] w fun e w' => e = .returned (.string (headIdB p)) ∧ Below w.heap.size w w' := by
  cases hv : hdrB p
  · have HE : Hid (headIdB p = ⟨#[]⟩) := by show _ = _; unfold headIdB; rw [hv]; rfl
    go_enter Tryz.func11, Tryz.ntmps11
    go_wp2_with (go_at_call 42; (with_reducible refine (sHeaderOk_any p _).mono ?_); rintro e w1 ⟨rfl, hb⟩)
    go_ret
    exact ⟨by rw [HE.out]; rfl, ((Below.refl _ _).alloc (Nat.le_refl _) _).trans (hb.mono (by rw [World.size_alloc]; omega))⟩
  · have HE : Hid (headIdB p = ⟨(shortL (showL p)).toArray⟩) := by show _ = _; unfold headIdB; rw [hv]; rfl
    have HL : Hid ((⟨(showL p).toArray⟩ : ByteArray).size ≤ 2097152) := by show (showL p).length ≤ _; have := showL_len p; omega
    go_enter Tryz.func11, Tryz.ntmps11
    go_wp2_with fail
    refine (sHeaderOk_any p _).mono ?_
    rintro e w1 ⟨rfl, hb⟩
    have hz : w.heap.size < w1.heap.size := by have := hb.size; rw [World.size_alloc] at this; omega
    have A1 := Blk.below (heap_alloc_new w _) hb (by rw [World.size_alloc]; omega)
    have t0 : w1.cell? ⟨w.heap.size, 0, none⟩ = some (.int .i64 p.h) := (Blk.cell A1 0).trans rfl
    have t1 : w1.cell? ⟨w.heap.size, 1, none⟩ = some (.int .i64 p.t) := (Blk.cell A1 1).trans rfl
    have t2 : w1.cell? ⟨w.heap.size, 2, none⟩ = some (.string p.last) := (Blk.cell A1 2).trans rfl
    have t3 : w1.cell? ⟨w.heap.size, 3, none⟩ = some (.string p.vals) := (Blk.cell A1 3).trans rfl
    have t4 : w1.cell? ⟨w.heap.size, 4, none⟩ = some (.string p.next) := (Blk.cell A1 4).trans rfl
    have t5 : w1.cell? ⟨w.heap.size, 5, none⟩ = some (.string p.data) := (Blk.cell A1 5).trans rfl
    have HB := Lib.hid (((Below.refl w.heap.size w).alloc (Nat.le_refl _) _).trans (hb.mono (by rw [World.size_alloc]; omega)))
    clear hb A1
    go_wp2_with fail
    refine (sShowHeader_any p _).mono ?_
    rintro e w2 ⟨rfl, hb2⟩
    have HB2 := Lib.hid (HB.out.trans (hb2.mono HB.out.size))
    clear hb2
    go_wp2_with fail
    refine (sShort_any _ _ HL.out).mono ?_
    rintro e w3 ⟨rfl, hb3⟩
    go_wp2_with fail
    go_ret
    exact ⟨by rw [HE.out]; rfl, HB2.out.trans (hb3.mono HB2.out.size)⟩
end Go.Proofs.YtelnnegfkdfpiaaGreatDoor
