/- Short, SignAs, Digest, Signed of both sides. (printed by sign.py) -/
import Derived.Test.YtelnnegfkdfpiaaGreatDoorSha6
import Derived.Test.YtelnnegfkdfpiaaGreatDoorSha7
import Derived.Test.YtelnnegfkdfpiaaGreatDoorB
import Derived.Test.YtelnnegfkdfpiaaGreatDoorM
import Derived.Test.YtelnnegfkdfpiaaGreatDoorFamVote
import Derived.WalkKit
import Derived.WalkSpells
import Derived.WalkLawsBesides
import Derived.Lib.Hide
namespace Go.Proofs.YtelnnegfkdfpiaaGreatDoor
open Go.RowKit

def shortL (l : List UInt8) : List UInt8 := (shaL l).take 8
theorem shortL_len (l : List UInt8) : (shortL l).length = 8 := by unfold shortL; rw [List.length_take, shaL_len]; rfl
def signAsL (v : Int) (d : List UInt8) : List UInt8 := if inB v 1 99 = true then shortL (4 :: (be 2 v ++ d)) else []
def voteOkB (p : VoteD) : Bool := voteB p.h p.r p.st p.id p.v
def digestL (p : VoteD) : List UInt8 := if voteOkB p = true then varL p.h ++ varL p.r ++ varL p.st ++ p.id.data.toList else []
def signedB (p : VoteD) (sig : ByteArray) : Bool := voteOkB p && (sig.toList == signAsL p.v (digestL p))
theorem voteOkB_id {p : VoteD} (h : voteOkB p = true) : p.id.size ≤ 8 := by
  unfold voteOkB voteB at h
  simp only [Bool.and_eq_true] at h
  have := h.1.2
  unfold idB at this
  rw [ByteArray.toList_eq, Bool.or_eq_true] at this
  rw [size_list]
  rcases this with h | h
  · rw [List.isEmpty_iff] at h
    rw [h]; decide
  · have h := (beq_iff_eq).1 h
    rw [size_list] at h
    omega
theorem digestL_len (p : VoteD) : (digestL p).length ≤ 29 := by
  unfold digestL
  split
  · rename_i h
    have h8 := voteOkB_id h
    rw [size_list] at h8
    simp only [List.length_append]
    have := varL_len p.h; have := varL_len p.r; have := varL_len p.st
    omega
  · simp
theorem short_cut (L : List UInt8) : ((⟨L.toArray⟩ : ByteArray).extract 0 8) = ⟨(L.take 8).toArray⟩ := by
  apply ByteArray.ext
  apply Array.toList_inj.1
  rw [extract_list64]
  simp

theorem Short_any (s : ByteArray) (w : World) (hs : s.size ≤ 2097152) (ht : Tab w) :
    Calls Tryz.prog 90 #[.string s] w fun e w' => e = .returned (.string ⟨(shortL s.data.toList).toArray⟩) ∧ Below w.heap.size w w' := by
  have HS : Hid (Calls Tryz.prog 99 #[.string s] w fun e w' => e = .returned (.string ⟨(shaL s.data.toList).toArray⟩) ∧ Below w.heap.size w w') := Sha_any s w hs ht
  have h8 : 8 ≤ (shaL s.data.toList).length := by rw [shaL_len]; decide
  have HC := Lib.hid (short_cut (shaL s.data.toList))
  have HD : Hid (shortL s.data.toList = (shaL s.data.toList).take 8) := rfl
  generalize shaL s.data.toList = L at *
  go_enter Tryz.func90, Tryz.ntmps90
  go_wp2_with (go_at_call 99; (with_reducible refine HS.out.mono ?_); rintro e w1 ⟨rfl, hb⟩)
  go_ret
  exact ⟨by rw [HD.out, ← HC.out]; rfl, hb⟩

theorem SignAs_any (v : Int) (d : ByteArray) (w : World) (hd : d.size ≤ 2000000) (ht : Tab w) :
    Calls Tryz.prog 116 #[.int .i64 v, .string d] w fun e w' => e = .returned (.string ⟨(signAsL v d.data.toList).toArray⟩) ∧ Below w.heap.size w w' := by
  cases hv : inB v 1 99
  · have HE : Hid (signAsL v d.data.toList = []) := by show _ = _; unfold signAsL; rw [hv]; rfl
    go_enter Tryz.func116, Tryz.ntmps116
    go_wp2_with (go_at_call 123; (with_reducible refine (isVal_any _ _).mono ?_); rintro e w' ⟨rfl, rfl⟩)
    go_ret
    exact ⟨by rw [HE.out]; rfl, Below.refl _ _⟩
  · have HE : Hid (signAsL v d.data.toList = shortL (4 :: (be 2 v ++ d.data.toList))) := by show _ = _; unfold signAsL; rw [hv]; rfl
    have hvb := (inB_iff v 1 99).1 hv
    have HF : ∀ w, Hid (Calls Tryz.prog 111 #[.int .i64 v, .int .i64 2] w fun e w' => e = .returned (.string ⟨(be 2 v).toArray⟩) ∧ Below w.heap.size w w') := fun w => Fixed_any v 2 w (by decide) (by decide) (by omega) (by show _ < (65536 : Int); omega)
    have hl2 : (be 2 v).length ≤ 2 := by rw [be_len]; decide
    have HX : Hid ((⟨#[4]⟩ ++ ⟨(be 2 v).toArray⟩ ++ d : ByteArray).data.toList = 4 :: (be 2 v ++ d.data.toList)) := by show _ = _; simp
    have HZ : Hid ((⟨#[4]⟩ ++ ⟨(be 2 v).toArray⟩ ++ d : ByteArray).size ≤ 2097152) := by
      show _ ≤ _
      rw [size_list, HX.out]
      rw [size_list] at hd
      simp only [List.length_cons, List.length_append]
      omega
    go_enter Tryz.func116, Tryz.ntmps116
    go_wp2_with (first | (go_at_call 123; (with_reducible refine (isVal_any _ _).mono ?_); rintro e w' ⟨rfl, rfl⟩) | (go_at_call 111; (with_reducible refine (HF _).out.mono ?_); rintro e w1 ⟨rfl, hb⟩) | (go_at_call 90; (with_reducible refine (Short_any _ _ (by exact HZ.out) (by exact ht.below hb ht.pos)).mono ?_); rintro e w2 ⟨rfl, hb2⟩))
    go_ret
    exact ⟨by rw [HE.out, ← HX.out]; rfl, hb.trans (hb2.mono hb.size)⟩

theorem Digest_any (p : VoteD) (w : World) :
    Calls Tryz.prog 117 #[.agg #[.int .i64 p.h, .int .i64 p.r, .int .i64 p.st, .string p.id, .int .i64 p.v]] w fun e w' => e = .returned (.string ⟨(digestL p).toArray⟩) ∧ Below w.heap.size w w' := by
  cases hv : voteB p.h p.r p.st p.id p.v
  · have HE : Hid (digestL p = []) := by show _ = _; unfold digestL voteOkB; rw [hv]; rfl
    go_enter Tryz.func117, Tryz.ntmps117
    go_wp2_with (go_at_call 115; (with_reducible refine (VoteOk_any _ _ _ _ _ _).mono ?_); rintro e w1 ⟨rfl, hb⟩)
    go_ret
    exact ⟨by rw [HE.out]; rfl, ((Below.refl _ _).alloc (Nat.le_refl _) _).trans (hb.mono (by rw [World.size_alloc]; omega))⟩
  · have HE : Hid (digestL p = varL p.h ++ varL p.r ++ varL p.st ++ p.id.data.toList) := by show _ = _; unfold digestL voteOkB; rw [hv]; rfl
    have h8 := voteOkB_id (p := p) hv
    have h1 := varL_len p.h; have h2 := varL_len p.r; have h3 := varL_len p.st
    have HX : Hid ((⟨(varL p.h).toArray⟩ ++ ⟨(varL p.r).toArray⟩ ++ ⟨(varL p.st).toArray⟩ ++ p.id : ByteArray) = ⟨(varL p.h ++ varL p.r ++ varL p.st ++ p.id.data.toList).toArray⟩) := by
      show _ = _
      rw [← bcat, ← bcat, ← bcat, ← list_bytes]
    go_enter Tryz.func117, Tryz.ntmps117
    go_wp2_with (go_at_call 115; (with_reducible refine (VoteOk_any _ _ _ _ _ _).mono ?_); rintro e w1 ⟨rfl, hb⟩)
    have hz : w.heap.size < w1.heap.size := by have := hb.size; rw [World.size_alloc] at this; omega
    have hc := (bcell hb).1
    have t0 : w1.cell? ⟨w.heap.size, 0, none⟩ = some (.int .i64 p.h) := by rw [hc _ _ (by rw [World.size_alloc]; omega)]; simp
    have t1 : w1.cell? ⟨w.heap.size, 1, none⟩ = some (.int .i64 p.r) := by rw [hc _ _ (by rw [World.size_alloc]; omega)]; simp
    have t2 : w1.cell? ⟨w.heap.size, 2, none⟩ = some (.int .i64 p.st) := by rw [hc _ _ (by rw [World.size_alloc]; omega)]; simp
    have t3 : w1.cell? ⟨w.heap.size, 3, none⟩ = some (.string p.id) := by rw [hc _ _ (by rw [World.size_alloc]; omega)]; simp
    clear hc
    have HB := Lib.hid (((Below.refl w.heap.size w).alloc (Nat.le_refl _) _).trans (hb.mono (by rw [World.size_alloc]; omega)))
    clear hb
    go_wp2_with fail
    refine wp_region_below (by kernel_rfl) (by kernel_rfl) ?_
    repeat (first | go_big_quiet_skip | (go_big_quiet_want; go_big_quiet_op; first | go_big_quiet_on | (apply Exists.intro; refine ⟨fun w1 hC => ?_, ?_⟩; (focus (first | rfl | (go_at_call 100; exact quiet_below hC (Var_any _ _)) | (simp [(bcell hC).1, hz, t0, t1, t2, t3]; done) | (simp [(bcell hC).1, hz, t0, t1, t2, t3]; rfl))); go_big_quiet_on)))
    refine wpQuiet_nil ?_
    intro w2 hb2
    obtain ⟨hc2, hf2, hz2⟩ := bcell hb2
    go_wp2
    go_ret
    exact ⟨by rw [HE.out, ← HX.out]; rfl, HB.out.trans (hb2.mono HB.out.size)⟩

theorem sShort_any (s : ByteArray) (w : World) (hs : s.size ≤ 2097152) :
    Calls Tryz.prog 48 #[.string s] w fun e w' => e = .returned (.string ⟨(shortL s.data.toList).toArray⟩) ∧ Below w.heap.size w w' := by
  have HS : Hid (Calls Tryz.prog 78 #[.string s] w fun e w' => e = .returned (.string ⟨(shaL s.data.toList).toArray⟩) ∧ Below w.heap.size w w') := sSha_any s w hs
  have h8 : 8 ≤ (shaL s.data.toList).length := by rw [shaL_len]; decide
  have HC := Lib.hid (short_cut (shaL s.data.toList))
  have HD : Hid (shortL s.data.toList = (shaL s.data.toList).take 8) := rfl
  generalize shaL s.data.toList = L at *
  go_enter Tryz.func48, Tryz.ntmps48
  go_wp2_with (go_at_call 78; (with_reducible refine HS.out.mono ?_); rintro e w1 ⟨rfl, hb⟩)
  go_ret
  exact ⟨by rw [HD.out, ← HC.out]; rfl, hb⟩

theorem sSignAs_any (v : Int) (d : ByteArray) (w : World) (hd : d.size ≤ 2000000) :
    Calls Tryz.prog 82 #[.int .i64 v, .string d] w fun e w' => e = .returned (.string ⟨(signAsL v d.data.toList).toArray⟩) ∧ Below w.heap.size w w' := by
  cases hv : inB v 1 99
  · have HE : Hid (signAsL v d.data.toList = []) := by show _ = _; unfold signAsL; rw [hv]; rfl
    go_enter Tryz.func82, Tryz.ntmps82
    go_wp2_with (go_at_call 75; (with_reducible refine (l1In_any _ _ _ _).mono ?_); rintro e w' ⟨rfl, rfl⟩)
    go_ret
    exact ⟨by rw [HE.out]; rfl, Below.refl _ _⟩
  · have HE : Hid (signAsL v d.data.toList = shortL (4 :: (be 2 v ++ d.data.toList))) := by show _ = _; unfold signAsL; rw [hv]; rfl
    have hvb := (inB_iff v 1 99).1 hv
    have HF : ∀ w, Hid (Calls Tryz.prog 98 #[.int .i64 v, .int .i64 2] w fun e w' => e = .returned (.string ⟨(be 2 v).toArray⟩) ∧ Below w.heap.size w w') := fun w => sFixed_any v 2 w (by decide) (by decide) (by omega) (by show _ < (65536 : Int); omega)
    have hl2 : (be 2 v).length ≤ 2 := by rw [be_len]; decide
    have HX : Hid ((⟨#[4]⟩ ++ ⟨(be 2 v).toArray⟩ ++ d : ByteArray).data.toList = 4 :: (be 2 v ++ d.data.toList)) := by show _ = _; simp
    have HZ : Hid ((⟨#[4]⟩ ++ ⟨(be 2 v).toArray⟩ ++ d : ByteArray).size ≤ 2097152) := by
      show _ ≤ _
      rw [size_list, HX.out]
      rw [size_list] at hd
      simp only [List.length_cons, List.length_append]
      omega
    go_enter Tryz.func82, Tryz.ntmps82
    go_wp2_with (first | (go_at_call 75; (with_reducible refine (l1In_any _ _ _ _).mono ?_); rintro e w' ⟨rfl, rfl⟩) | (go_at_call 98; (with_reducible refine (HF _).out.mono ?_); rintro e w1 ⟨rfl, hb⟩) | (go_at_call 48; (with_reducible refine (sShort_any _ _ (by exact HZ.out)).mono ?_); rintro e w2 ⟨rfl, hb2⟩))
    go_ret
    exact ⟨by rw [HE.out, ← HX.out]; rfl, hb.trans (hb2.mono hb.size)⟩

theorem sDigest_any (p : VoteD) (w : World) :
    Calls Tryz.prog 83 #[.agg #[.int .i64 p.h, .int .i64 p.r, .int .i64 p.st, .string p.id, .int .i64 p.v]] w fun e w' => e = .returned (.string ⟨(digestL p).toArray⟩) ∧ Below w.heap.size w w' := by
  cases hv : voteB p.h p.r p.st p.id p.v
  · have HE : Hid (digestL p = []) := by show _ = _; unfold digestL voteOkB; rw [hv]; rfl
    go_enter Tryz.func83, Tryz.ntmps83
    go_wp2_with (go_at_call 81; (with_reducible refine (sVoteOk_any _ _ _ _ _ _).mono ?_); rintro e w1 ⟨rfl, hb⟩)
    go_ret
    exact ⟨by rw [HE.out]; rfl, ((Below.refl _ _).alloc (Nat.le_refl _) _).trans (hb.mono (by rw [World.size_alloc]; omega))⟩
  · have HE : Hid (digestL p = varL p.h ++ varL p.r ++ varL p.st ++ p.id.data.toList) := by show _ = _; unfold digestL voteOkB; rw [hv]; rfl
    have h8 := voteOkB_id (p := p) hv
    have h1 := varL_len p.h; have h2 := varL_len p.r; have h3 := varL_len p.st
    have HX : Hid ((⟨(varL p.h).toArray⟩ ++ ⟨(varL p.r).toArray⟩ ++ ⟨(varL p.st).toArray⟩ ++ p.id : ByteArray) = ⟨(varL p.h ++ varL p.r ++ varL p.st ++ p.id.data.toList).toArray⟩) := by
      show _ = _
      rw [← bcat, ← bcat, ← bcat, ← list_bytes]
    go_enter Tryz.func83, Tryz.ntmps83
    go_wp2_with (go_at_call 81; (with_reducible refine (sVoteOk_any _ _ _ _ _ _).mono ?_); rintro e w1 ⟨rfl, hb⟩)
    have hz : w.heap.size < w1.heap.size := by have := hb.size; rw [World.size_alloc] at this; omega
    have hc := (bcell hb).1
    have t0 : w1.cell? ⟨w.heap.size, 0, none⟩ = some (.int .i64 p.h) := by rw [hc _ _ (by rw [World.size_alloc]; omega)]; simp
    have t1 : w1.cell? ⟨w.heap.size, 1, none⟩ = some (.int .i64 p.r) := by rw [hc _ _ (by rw [World.size_alloc]; omega)]; simp
    have t2 : w1.cell? ⟨w.heap.size, 2, none⟩ = some (.int .i64 p.st) := by rw [hc _ _ (by rw [World.size_alloc]; omega)]; simp
    have t3 : w1.cell? ⟨w.heap.size, 3, none⟩ = some (.string p.id) := by rw [hc _ _ (by rw [World.size_alloc]; omega)]; simp
    clear hc
    have HB := Lib.hid (((Below.refl w.heap.size w).alloc (Nat.le_refl _) _).trans (hb.mono (by rw [World.size_alloc]; omega)))
    clear hb
    go_wp2_with fail
    refine wp_region_below (by kernel_rfl) (by kernel_rfl) ?_
    repeat (first | go_big_quiet_skip | (go_big_quiet_want; go_big_quiet_op; first | go_big_quiet_on | (apply Exists.intro; refine ⟨fun w1 hC => ?_, ?_⟩; (focus (first | rfl | (go_at_call 79; exact quiet_below hC (sVar_any _ _)) | (simp [(bcell hC).1, hz, t0, t1, t2, t3]; done) | (simp [(bcell hC).1, hz, t0, t1, t2, t3]; rfl))); go_big_quiet_on)))
    refine wpQuiet_nil ?_
    intro w2 hb2
    obtain ⟨hc2, hf2, hz2⟩ := bcell hb2
    go_wp2
    go_ret
    exact ⟨by rw [HE.out, ← HX.out]; rfl, HB.out.trans (hb2.mono HB.out.size)⟩

structure EvD where
  a : VoteD
  sa : ByteArray
  b : VoteD
  sb : ByteArray
def evB (e : EvD) : Bool := signedB e.a e.sa && (signedB e.b e.sb && (e.a.v == e.b.v && (e.a.h == e.b.h && (e.a.r == e.b.r && (e.a.st == e.b.st && !(e.a.id.toList == e.b.id.toList))))))

theorem Signed_any (p : VoteD) (sg : ByteArray) (w : World) (ht : Tab w) :
    Calls Tryz.prog 106 #[.agg #[.int .i64 p.h, .int .i64 p.r, .int .i64 p.st, .string p.id, .int .i64 p.v], .string sg] w fun e w' => e = .returned (.bool (signedB p sg)) ∧ Below w.heap.size w w' := by
  have HT := Lib.hid ht; clear ht
  cases hv : voteB p.h p.r p.st p.id p.v
  · have HE : Hid (signedB p sg = false) := by show _ = _; unfold signedB voteOkB; rw [hv]; rfl
    have HVK : ∀ wx : World, Hid (Calls Tryz.prog 115 #[.agg #[.int .i64 p.h, .int .i64 p.r, .int .i64 p.st, .string p.id, .int .i64 p.v]] wx fun e w' => e = .returned (.bool false) ∧ Below wx.heap.size wx w') := fun wx => by
      have h := VoteOk_any p.h p.r p.st p.id p.v wx
      rw [hv] at h
      exact h
    go_enter Tryz.func106, Tryz.ntmps106
    go_wp2_with fail
    have A0 : Blk (w.alloc (.cells #[.int .i64 p.h, .int .i64 p.r, .int .i64 p.st, .string p.id, .int .i64 p.v] 94)) w.heap.size 94 #[.int .i64 p.h, .int .i64 p.r, .int .i64 p.st, .string p.id, .int .i64 p.v] := heap_alloc_new w _
    have HB0 : Hid (Below w.heap.size w (w.alloc (.cells #[.int .i64 p.h, .int .i64 p.r, .int .i64 p.st, .string p.id, .int .i64 p.v] 94))) := (Below.refl _ _).alloc (Nat.le_refl _) _
    generalize w.alloc (.cells #[.int .i64 p.h, .int .i64 p.r, .int .i64 p.st, .string p.id, .int .i64 p.v] 94) = wb at *
    have hz : w.heap.size < wb.heap.size := A0.lt
    have t0 : wb.cell? ⟨w.heap.size, 0, none⟩ = some (.int .i64 p.h) := (A0.cell 0).trans rfl
    have t1 : wb.cell? ⟨w.heap.size, 1, none⟩ = some (.int .i64 p.r) := (A0.cell 1).trans rfl
    have t2 : wb.cell? ⟨w.heap.size, 2, none⟩ = some (.int .i64 p.st) := (A0.cell 2).trans rfl
    have t3 : wb.cell? ⟨w.heap.size, 3, none⟩ = some (.string p.id) := (A0.cell 3).trans rfl
    have t4 : wb.cell? ⟨w.heap.size, 4, none⟩ = some (.int .i64 p.v) := (A0.cell 4).trans rfl
    clear A0
    refine wp_region_below (by kernel_rfl) (by kernel_rfl) ?_
    repeat (first | go_big_quiet_skip | (go_big_quiet_want; go_big_quiet_op; first | go_big_quiet_on | (apply Exists.intro; refine ⟨fun w1 hC => ?_, ?_⟩; (focus (first | rfl | (go_at_call 115; exact quiet_below hC ((HVK _).out)) | (simp [(bcell hC).1, hz, t0, t1, t2, t3, t4]; done) | (simp [(bcell hC).1, hz, t0, t1, t2, t3, t4]; rfl))); go_big_quiet_on)))
    refine wpQuiet_nil ?_
    intro w2 hb2
    obtain ⟨hc2, hf2, hz2⟩ := bcell hb2
    go_wp2
    go_ret
    exact ⟨by rw [HE.out]; rfl, HB0.out.trans (hb2.mono HB0.out.size)⟩
  · have HE : Hid (signedB p sg = (sg.toList == signAsL p.v (digestL p))) := by show _ = _; unfold signedB voteOkB; rw [hv]; rfl
    have hd : (⟨(digestL p).toArray⟩ : ByteArray).size ≤ 2000000 := by rw [size_list]; have := digestL_len p; simp; omega
    have HSA : ∀ wx : World, Tab wx → Hid (Calls Tryz.prog 116 #[.int .i64 p.v, .string ⟨(digestL p).toArray⟩] wx fun e w' => e = .returned (.string ⟨(signAsL p.v (digestL p)).toArray⟩) ∧ Below wx.heap.size wx w') := fun wx hx => SignAs_any p.v ⟨(digestL p).toArray⟩ wx hd hx
    have HD : ∀ wx : World, Hid (Calls Tryz.prog 117 #[.agg #[.int .i64 p.h, .int .i64 p.r, .int .i64 p.st, .string p.id, .int .i64 p.v]] wx fun e w' => e = .returned (.string ⟨(digestL p).toArray⟩) ∧ Below wx.heap.size wx w') := fun wx => Digest_any p wx
    generalize digestL p = dl at *
    generalize signAsL p.v dl = sl at *
    clear hd
    have HVK : ∀ wx : World, Hid (Calls Tryz.prog 115 #[.agg #[.int .i64 p.h, .int .i64 p.r, .int .i64 p.st, .string p.id, .int .i64 p.v]] wx fun e w' => e = .returned (.bool true) ∧ Below wx.heap.size wx w') := fun wx => by
      have h := VoteOk_any p.h p.r p.st p.id p.v wx
      rw [hv] at h
      exact h
    go_enter Tryz.func106, Tryz.ntmps106
    go_wp2_with fail
    have A0 : Blk (w.alloc (.cells #[.int .i64 p.h, .int .i64 p.r, .int .i64 p.st, .string p.id, .int .i64 p.v] 94)) w.heap.size 94 #[.int .i64 p.h, .int .i64 p.r, .int .i64 p.st, .string p.id, .int .i64 p.v] := heap_alloc_new w _
    have HB0 : Hid (Below w.heap.size w (w.alloc (.cells #[.int .i64 p.h, .int .i64 p.r, .int .i64 p.st, .string p.id, .int .i64 p.v] 94))) := (Below.refl _ _).alloc (Nat.le_refl _) _
    generalize w.alloc (.cells #[.int .i64 p.h, .int .i64 p.r, .int .i64 p.st, .string p.id, .int .i64 p.v] 94) = wb at *
    have hz : w.heap.size < wb.heap.size := A0.lt
    have t0 : wb.cell? ⟨w.heap.size, 0, none⟩ = some (.int .i64 p.h) := (A0.cell 0).trans rfl
    have t1 : wb.cell? ⟨w.heap.size, 1, none⟩ = some (.int .i64 p.r) := (A0.cell 1).trans rfl
    have t2 : wb.cell? ⟨w.heap.size, 2, none⟩ = some (.int .i64 p.st) := (A0.cell 2).trans rfl
    have t3 : wb.cell? ⟨w.heap.size, 3, none⟩ = some (.string p.id) := (A0.cell 3).trans rfl
    have t4 : wb.cell? ⟨w.heap.size, 4, none⟩ = some (.int .i64 p.v) := (A0.cell 4).trans rfl
    clear A0
    refine wp_region_below (by kernel_rfl) (by kernel_rfl) ?_
    repeat (first | go_big_quiet_skip | (go_big_quiet_want; go_big_quiet_op; first | go_big_quiet_on | (apply Exists.intro; refine ⟨fun w1 hC => ?_, ?_⟩; (focus (first | rfl | (go_at_call 115; exact quiet_below hC ((HVK _).out)) | (go_at_call 117; exact quiet_below hC ((HD _).out)) | (go_at_call 116; exact quiet_below hC ((HSA _ (by exact (HT.out.below HB0.out HT.out.pos).below hC (by omega))).out)) | (simp [(bcell hC).1, hz, t0, t1, t2, t3, t4]; done) | (simp [(bcell hC).1, hz, t0, t1, t2, t3, t4]; rfl))); go_big_quiet_on)))
    refine wpQuiet_nil ?_
    intro w2 hb2
    obtain ⟨hc2, hf2, hz2⟩ := bcell hb2
    go_wp2
    go_ret
    exact ⟨by rw [HE.out]; first | rfl | (congr 2; simp), HB0.out.trans (hb2.mono HB0.out.size)⟩

theorem sSigned_any (p : VoteD) (sg : ByteArray) (w : World) :
    Calls Tryz.prog 52 #[.agg #[.int .i64 p.h, .int .i64 p.r, .int .i64 p.st, .string p.id, .int .i64 p.v], .string sg] w fun e w' => e = .returned (.bool (signedB p sg)) ∧ Below w.heap.size w w' := by
  skip
  cases hv : voteB p.h p.r p.st p.id p.v
  · have HE : Hid (signedB p sg = false) := by show _ = _; unfold signedB voteOkB; rw [hv]; rfl
    have HVK : ∀ wx : World, Hid (Calls Tryz.prog 81 #[.agg #[.int .i64 p.h, .int .i64 p.r, .int .i64 p.st, .string p.id, .int .i64 p.v]] wx fun e w' => e = .returned (.bool false) ∧ Below wx.heap.size wx w') := fun wx => by
      have h := sVoteOk_any p.h p.r p.st p.id p.v wx
      rw [hv] at h
      exact h
    go_enter Tryz.func52, Tryz.ntmps52
    go_wp2_with fail
    have A0 : Blk (w.alloc (.cells #[.int .i64 p.h, .int .i64 p.r, .int .i64 p.st, .string p.id, .int .i64 p.v] 94)) w.heap.size 94 #[.int .i64 p.h, .int .i64 p.r, .int .i64 p.st, .string p.id, .int .i64 p.v] := heap_alloc_new w _
    have HB0 : Hid (Below w.heap.size w (w.alloc (.cells #[.int .i64 p.h, .int .i64 p.r, .int .i64 p.st, .string p.id, .int .i64 p.v] 94))) := (Below.refl _ _).alloc (Nat.le_refl _) _
    generalize w.alloc (.cells #[.int .i64 p.h, .int .i64 p.r, .int .i64 p.st, .string p.id, .int .i64 p.v] 94) = wb at *
    have hz : w.heap.size < wb.heap.size := A0.lt
    have t0 : wb.cell? ⟨w.heap.size, 0, none⟩ = some (.int .i64 p.h) := (A0.cell 0).trans rfl
    have t1 : wb.cell? ⟨w.heap.size, 1, none⟩ = some (.int .i64 p.r) := (A0.cell 1).trans rfl
    have t2 : wb.cell? ⟨w.heap.size, 2, none⟩ = some (.int .i64 p.st) := (A0.cell 2).trans rfl
    have t3 : wb.cell? ⟨w.heap.size, 3, none⟩ = some (.string p.id) := (A0.cell 3).trans rfl
    have t4 : wb.cell? ⟨w.heap.size, 4, none⟩ = some (.int .i64 p.v) := (A0.cell 4).trans rfl
    clear A0
    refine wp_region_below (by kernel_rfl) (by kernel_rfl) ?_
    repeat (first | go_big_quiet_skip | (go_big_quiet_want; go_big_quiet_op; first | go_big_quiet_on | (apply Exists.intro; refine ⟨fun w1 hC => ?_, ?_⟩; (focus (first | rfl | (go_at_call 81; exact quiet_below hC ((HVK _).out)) | (simp [(bcell hC).1, hz, t0, t1, t2, t3, t4]; done) | (simp [(bcell hC).1, hz, t0, t1, t2, t3, t4]; rfl))); go_big_quiet_on)))
    refine wpQuiet_nil ?_
    intro w2 hb2
    obtain ⟨hc2, hf2, hz2⟩ := bcell hb2
    go_wp2
    go_ret
    exact ⟨by rw [HE.out]; rfl, HB0.out.trans (hb2.mono HB0.out.size)⟩
  · have HE : Hid (signedB p sg = (sg.toList == signAsL p.v (digestL p))) := by show _ = _; unfold signedB voteOkB; rw [hv]; rfl
    have hd : (⟨(digestL p).toArray⟩ : ByteArray).size ≤ 2000000 := by rw [size_list]; have := digestL_len p; simp; omega
    have HSA : ∀ wx : World, Hid (Calls Tryz.prog 82 #[.int .i64 p.v, .string ⟨(digestL p).toArray⟩] wx fun e w' => e = .returned (.string ⟨(signAsL p.v (digestL p)).toArray⟩) ∧ Below wx.heap.size wx w') := fun wx => sSignAs_any p.v ⟨(digestL p).toArray⟩ wx hd
    have HD : ∀ wx : World, Hid (Calls Tryz.prog 83 #[.agg #[.int .i64 p.h, .int .i64 p.r, .int .i64 p.st, .string p.id, .int .i64 p.v]] wx fun e w' => e = .returned (.string ⟨(digestL p).toArray⟩) ∧ Below wx.heap.size wx w') := fun wx => sDigest_any p wx
    generalize digestL p = dl at *
    generalize signAsL p.v dl = sl at *
    clear hd
    have HVK : ∀ wx : World, Hid (Calls Tryz.prog 81 #[.agg #[.int .i64 p.h, .int .i64 p.r, .int .i64 p.st, .string p.id, .int .i64 p.v]] wx fun e w' => e = .returned (.bool true) ∧ Below wx.heap.size wx w') := fun wx => by
      have h := sVoteOk_any p.h p.r p.st p.id p.v wx
      rw [hv] at h
      exact h
    go_enter Tryz.func52, Tryz.ntmps52
    go_wp2_with fail
    have A0 : Blk (w.alloc (.cells #[.int .i64 p.h, .int .i64 p.r, .int .i64 p.st, .string p.id, .int .i64 p.v] 94)) w.heap.size 94 #[.int .i64 p.h, .int .i64 p.r, .int .i64 p.st, .string p.id, .int .i64 p.v] := heap_alloc_new w _
    have HB0 : Hid (Below w.heap.size w (w.alloc (.cells #[.int .i64 p.h, .int .i64 p.r, .int .i64 p.st, .string p.id, .int .i64 p.v] 94))) := (Below.refl _ _).alloc (Nat.le_refl _) _
    generalize w.alloc (.cells #[.int .i64 p.h, .int .i64 p.r, .int .i64 p.st, .string p.id, .int .i64 p.v] 94) = wb at *
    have hz : w.heap.size < wb.heap.size := A0.lt
    have t0 : wb.cell? ⟨w.heap.size, 0, none⟩ = some (.int .i64 p.h) := (A0.cell 0).trans rfl
    have t1 : wb.cell? ⟨w.heap.size, 1, none⟩ = some (.int .i64 p.r) := (A0.cell 1).trans rfl
    have t2 : wb.cell? ⟨w.heap.size, 2, none⟩ = some (.int .i64 p.st) := (A0.cell 2).trans rfl
    have t3 : wb.cell? ⟨w.heap.size, 3, none⟩ = some (.string p.id) := (A0.cell 3).trans rfl
    have t4 : wb.cell? ⟨w.heap.size, 4, none⟩ = some (.int .i64 p.v) := (A0.cell 4).trans rfl
    clear A0
    refine wp_region_below (by kernel_rfl) (by kernel_rfl) ?_
    repeat (first | go_big_quiet_skip | (go_big_quiet_want; go_big_quiet_op; first | go_big_quiet_on | (apply Exists.intro; refine ⟨fun w1 hC => ?_, ?_⟩; (focus (first | rfl | (go_at_call 81; exact quiet_below hC ((HVK _).out)) | (go_at_call 83; exact quiet_below hC ((HD _).out)) | (go_at_call 82; exact quiet_below hC ((HSA _).out)) | (simp [(bcell hC).1, hz, t0, t1, t2, t3, t4]; done) | (simp [(bcell hC).1, hz, t0, t1, t2, t3, t4]; rfl))); go_big_quiet_on)))
    refine wpQuiet_nil ?_
    intro w2 hb2
    obtain ⟨hc2, hf2, hz2⟩ := bcell hb2
    go_wp2
    go_ret
    exact ⟨by rw [HE.out]; first | rfl | (congr 2; simp), HB0.out.trans (hb2.mono HB0.out.size)⟩



end Go.Proofs.YtelnnegfkdfpiaaGreatDoor
