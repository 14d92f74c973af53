/- Short, SignAs, Digest, Signed of both sides. (printed by sign.py) -/
import Derived.Test.YteaggbbimhpolaaDoorSha6
import Derived.Test.YteaggbbimhpolaaDoorSha7
import Derived.Test.YteaggbbimhpolaaDoorB
import Derived.Test.YteaggbbimhpolaaDoorM
import Derived.Test.YteaggbbimhpolaaDoorFamVote
import Derived.WalkKit
import Derived.WalkSpells
import Derived.WalkLawsBesides
import Derived.Lib.Hide
namespace Go.Proofs.YteaggbbimhpolaaDoor
open Go.RowKit

def shortL (l : List UInt8) : List UInt8 := (shaL l).take 8
theorem shortL_len (l : List UInt8) : (shortL l).length = 8 := by unfold shortL; rw [List.length_take, shaL_len]; rfl
def signAsL (v : Int) (d : List UInt8) : List UInt8 := if inB v 1 99 = true then shortL (4 :: (be 2 v ++ d)) else []
def voteOkB (p : VoteD) : Bool := voteB p.h p.r p.st p.id p.v
def digestL (p : VoteD) : List UInt8 := if voteOkB p = true then varL p.h ++ varL p.r ++ varL p.st ++ p.id.data.toList else []
def signedB (p : VoteD) (sig : ByteArray) : Bool := voteOkB p && (sig.toList == signAsL p.v (digestL p))
theorem voteOkB_id {p : VoteD} (h : voteOkB p = true) : p.id.size ≤ 8 := by
  unfold voteOkB voteB at h
  simp only [Bool.and_eq_true] at h
  have := h.1.2
  unfold idB at this
  rw [ByteArray.toList_eq, Bool.or_eq_true] at this
  rw [size_list]
  rcases this with h | h
  · rw [List.isEmpty_iff] at h
    rw [h]; decide
  · have h := (beq_iff_eq).1 h
    rw [size_list] at h
    omega
theorem digestL_len (p : VoteD) : (digestL p).length ≤ 29 := by
  unfold digestL
  split
  · rename_i h
    have h8 := voteOkB_id h
    rw [size_list] at h8
    simp only [List.length_append]
    have := varL_len p.h; have := varL_len p.r; have := varL_len p.st
    omega
  · simp
theorem short_cut (L : List UInt8) : ((⟨L.toArray⟩ : ByteArray).extract 0 8) = ⟨(L.take 8).toArray⟩ := by
  apply ByteArray.ext
  apply Array.toList_inj.1
  rw [extract_list64]
  simp

theorem Short_any (s : ByteArray) (w : World) (hs : s.size ≤ 2097152) (ht : Tab w) :
    Calls Tryd.prog 65 #[.string s] w fun e w' => e = .returned (.string ⟨(shortL s.data.toList).toArray⟩) ∧ Below w.heap.size w w' := by
  have HS : Hid (Calls Tryd.prog 83 #[.string s] w fun e w' => e = .returned (.string ⟨(shaL s.data.toList).toArray⟩) ∧ Below w.heap.size w w') := Sha_any s w hs ht
  have h8 : 8 ≤ (shaL s.data.toList).length := by rw [shaL_len]; decide
  have HC := Lib.hid (short_cut (shaL s.data.toList))
  have HD : Hid (shortL s.data.toList = (shaL s.data.toList).take 8) := rfl
  generalize shaL s.data.toList = L at *
  go_enter Tryd.func65, Tryd.ntmps65
  go_wp2_with (go_at_call 83; (with_reducible refine HS.out.mono ?_); rintro e w1 ⟨rfl, hb⟩)
  go_ret
  exact ⟨by rw [HD.out, ← HC.out]; rfl, hb⟩

theorem SignAs_any (v : Int) (d : ByteArray) (w : World) (hd : d.size ≤ 2000000) (ht : Tab w) :
    Calls Tryd.prog 48 #[.int .i64 v, .string d] w fun e w' => e = .returned (.string ⟨(signAsL v d.data.toList).toArray⟩) ∧ Below w.heap.size w w' := by
  cases hv : inB v 1 99
  · have HE : Hid (signAsL v d.data.toList = []) := by show _ = _; unfold signAsL; rw [hv]; rfl
    go_enter Tryd.func48, Tryd.ntmps48
    go_wp2_with (go_at_call 64; (with_reducible refine (isVal_any _ _).mono ?_); rintro e w' ⟨rfl, rfl⟩)
    go_ret
    exact ⟨by rw [HE.out]; rfl, Below.refl _ _⟩
  · have HE : Hid (signAsL v d.data.toList = shortL (4 :: (be 2 v ++ d.data.toList))) := by show _ = _; unfold signAsL; rw [hv]; rfl
    have hvb := (inB_iff v 1 99).1 hv
    have HF : ∀ w, Hid (Calls Tryd.prog 66 #[.int .i64 v, .int .i64 2] w fun e w' => e = .returned (.string ⟨(be 2 v).toArray⟩) ∧ Below w.heap.size w w') := fun w => Fixed_any v 2 w (by decide) (by decide) (by omega) (by show _ < (65536 : Int); omega)
    have hl2 : (be 2 v).length ≤ 2 := by rw [be_len]; decide
    have HX : Hid ((⟨#[4]⟩ ++ ⟨(be 2 v).toArray⟩ ++ d : ByteArray).data.toList = 4 :: (be 2 v ++ d.data.toList)) := by show _ = _; simp
    have HZ : Hid ((⟨#[4]⟩ ++ ⟨(be 2 v).toArray⟩ ++ d : ByteArray).size ≤ 2097152) := by
      show _ ≤ _
      rw [size_list, HX.out]
      rw [size_list] at hd
      simp only [List.length_cons, List.length_append]
      omega
    go_enter Tryd.func48, Tryd.ntmps48
    go_wp2_with (first | (go_at_call 64; (with_reducible refine (isVal_any _ _).mono ?_); rintro e w' ⟨rfl, rfl⟩) | (go_at_call 66; (with_reducible refine (HF _).out.mono ?_); rintro e w1 ⟨rfl, hb⟩) | (go_at_call 65; (with_reducible refine (Short_any _ _ (by exact HZ.out) (by exact ht.below hb ht.pos)).mono ?_); rintro e w2 ⟨rfl, hb2⟩))
    go_ret
    exact ⟨by rw [HE.out, ← HX.out]; rfl, hb.trans (hb2.mono hb.size)⟩

theorem Digest_any (p : VoteD) (w : World) :
    Calls Tryd.prog 49 #[.agg #[.int .i64 p.h, .int .i64 p.r, .int .i64 p.st, .string p.id, .int .i64 p.v]] w fun e w' => e = .returned (.string ⟨(digestL p).toArray⟩) ∧ Below w.heap.size w w' := by
  cases hv : voteB p.h p.r p.st p.id p.v
  · have HE : Hid (digestL p = []) := by show _ = _; unfold digestL voteOkB; rw [hv]; rfl
    go_enter Tryd.func49, Tryd.ntmps49
    go_wp2_with (go_at_call 47; (with_reducible refine (VoteOk_any _ _ _ _ _ _).mono ?_); rintro e w1 ⟨rfl, hb⟩)
    go_ret
    exact ⟨by rw [HE.out]; rfl, ((Below.refl _ _).alloc (Nat.le_refl _) _).trans (hb.mono (by rw [World.size_alloc]; omega))⟩
  · have HE : Hid (digestL p = varL p.h ++ varL p.r ++ varL p.st ++ p.id.data.toList) := by show _ = _; unfold digestL voteOkB; rw [hv]; rfl
    have h8 := voteOkB_id (p := p) hv
    have h1 := varL_len p.h; have h2 := varL_len p.r; have h3 := varL_len p.st
    have HX : Hid ((⟨(varL p.h).toArray⟩ ++ ⟨(varL p.r).toArray⟩ ++ ⟨(varL p.st).toArray⟩ ++ p.id : ByteArray) = ⟨(varL p.h ++ varL p.r ++ varL p.st ++ p.id.data.toList).toArray⟩) := by
      show _ = _
      rw [← bcat, ← bcat, ← bcat, ← list_bytes]
    go_enter Tryd.func49, Tryd.ntmps49
    go_wp2_with (go_at_call 47; (with_reducible refine (VoteOk_any _ _ _ _ _ _).mono ?_); rintro e w1 ⟨rfl, hb⟩)
    have hz : w.heap.size < w1.heap.size := by have := hb.size; rw [World.size_alloc] at this; omega
    have hc := (bcell hb).1
    have t0 : w1.cell? ⟨w.heap.size, 0, none⟩ = some (.int .i64 p.h) := by rw [hc _ _ (by rw [World.size_alloc]; omega)]; simp
    have t1 : w1.cell? ⟨w.heap.size, 1, none⟩ = some (.int .i64 p.r) := by rw [hc _ _ (by rw [World.size_alloc]; omega)]; simp
    have t2 : w1.cell? ⟨w.heap.size, 2, none⟩ = some (.int .i64 p.st) := by rw [hc _ _ (by rw [World.size_alloc]; omega)]; simp
    have t3 : w1.cell? ⟨w.heap.size, 3, none⟩ = some (.string p.id) := by rw [hc _ _ (by rw [World.size_alloc]; omega)]; simp
    clear hc
    have HB := Lib.hid (((Below.refl w.heap.size w).alloc (Nat.le_refl _) _).trans (hb.mono (by rw [World.size_alloc]; omega)))
    clear hb
    go_wp2_with fail
    refine wp_region_below (by kernel_rfl) (by kernel_rfl) ?_
    repeat (first | go_big_quiet_skip | (go_big_quiet_want; go_big_quiet_op; first | go_big_quiet_on | (apply Exists.intro; refine ⟨fun w1 hC => ?_, ?_⟩; (focus (first | rfl | (go_at_call 67; exact quiet_below hC (Var_any _ _)) | (simp [(bcell hC).1, hz, t0, t1, t2, t3]; done) | (simp [(bcell hC).1, hz, t0, t1, t2, t3]; rfl))); go_big_quiet_on)))
    refine wpQuiet_nil ?_
    intro w2 hb2
    obtain ⟨hc2, hf2, hz2⟩ := bcell hb2
    go_wp2
    go_ret
    exact ⟨by rw [HE.out, ← HX.out]; rfl, HB.out.trans (hb2.mono HB.out.size)⟩

theorem sShort_any (s : ByteArray) (w : World) (hs : s.size ≤ 2097152) :
    Calls Tryd.prog 55 #[.string s] w fun e w' => e = .returned (.string ⟨(shortL s.data.toList).toArray⟩) ∧ Below w.heap.size w w' := by
  have HS : Hid (Calls Tryd.prog 82 #[.string s] w fun e w' => e = .returned (.string ⟨(shaL s.data.toList).toArray⟩) ∧ Below w.heap.size w w') := sSha_any s w hs
  have h8 : 8 ≤ (shaL s.data.toList).length := by rw [shaL_len]; decide
  have HC := Lib.hid (short_cut (shaL s.data.toList))
  have HD : Hid (shortL s.data.toList = (shaL s.data.toList).take 8) := rfl
  generalize shaL s.data.toList = L at *
  go_enter Tryd.func55, Tryd.ntmps55
  go_wp2_with (go_at_call 82; (with_reducible refine HS.out.mono ?_); rintro e w1 ⟨rfl, hb⟩)
  go_ret
  exact ⟨by rw [HD.out, ← HC.out]; rfl, hb⟩

theorem sSignAs_any (v : Int) (d : ByteArray) (w : World) (hd : d.size ≤ 2000000) :
    Calls Tryd.prog 44 #[.int .i64 v, .string d] w fun e w' => e = .returned (.string ⟨(signAsL v d.data.toList).toArray⟩) ∧ Below w.heap.size w w' := by
  cases hv : inB v 1 99
  · have HE : Hid (signAsL v d.data.toList = []) := by show _ = _; unfold signAsL; rw [hv]; rfl
    go_enter Tryd.func44, Tryd.ntmps44
    go_wp2_with (go_at_call 58; (with_reducible refine (l1In_any _ _ _ _).mono ?_); rintro e w' ⟨rfl, rfl⟩)
    go_ret
    exact ⟨by rw [HE.out]; rfl, Below.refl _ _⟩
  · have HE : Hid (signAsL v d.data.toList = shortL (4 :: (be 2 v ++ d.data.toList))) := by show _ = _; unfold signAsL; rw [hv]; rfl
    have hvb := (inB_iff v 1 99).1 hv
    have HF : ∀ w, Hid (Calls Tryd.prog 59 #[.int .i64 v, .int .i64 2] w fun e w' => e = .returned (.string ⟨(be 2 v).toArray⟩) ∧ Below w.heap.size w w') := fun w => sFixed_any v 2 w (by decide) (by decide) (by omega) (by show _ < (65536 : Int); omega)
    have hl2 : (be 2 v).length ≤ 2 := by rw [be_len]; decide
    have HX : Hid ((⟨#[4]⟩ ++ ⟨(be 2 v).toArray⟩ ++ d : ByteArray).data.toList = 4 :: (be 2 v ++ d.data.toList)) := by show _ = _; simp
    have HZ : Hid ((⟨#[4]⟩ ++ ⟨(be 2 v).toArray⟩ ++ d : ByteArray).size ≤ 2097152) := by
      show _ ≤ _
      rw [size_list, HX.out]
      rw [size_list] at hd
      simp only [List.length_cons, List.length_append]
      omega
    go_enter Tryd.func44, Tryd.ntmps44
    go_wp2_with (first | (go_at_call 58; (with_reducible refine (l1In_any _ _ _ _).mono ?_); rintro e w' ⟨rfl, rfl⟩) | (go_at_call 59; (with_reducible refine (HF _).out.mono ?_); rintro e w1 ⟨rfl, hb⟩) | (go_at_call 55; (with_reducible refine (sShort_any _ _ (by exact HZ.out)).mono ?_); rintro e w2 ⟨rfl, hb2⟩))
    go_ret
    exact ⟨by rw [HE.out, ← HX.out]; rfl, hb.trans (hb2.mono hb.size)⟩

theorem sDigest_any (p : VoteD) (w : World) :
    Calls Tryd.prog 45 #[.agg #[.int .i64 p.h, .int .i64 p.r, .int .i64 p.st, .string p.id, .int .i64 p.v]] w fun e w' => e = .returned (.string ⟨(digestL p).toArray⟩) ∧ Below w.heap.size w w' := by
  cases hv : voteB p.h p.r p.st p.id p.v
  · have HE : Hid (digestL p = []) := by show _ = _; unfold digestL voteOkB; rw [hv]; rfl
    go_enter Tryd.func45, Tryd.ntmps45
    go_wp2_with (go_at_call 43; (with_reducible refine (sVoteOk_any _ _ _ _ _ _).mono ?_); rintro e w1 ⟨rfl, hb⟩)
    go_ret
    exact ⟨by rw [HE.out]; rfl, ((Below.refl _ _).alloc (Nat.le_refl _) _).trans (hb.mono (by rw [World.size_alloc]; omega))⟩
  · have HE : Hid (digestL p = varL p.h ++ varL p.r ++ varL p.st ++ p.id.data.toList) := by show _ = _; unfold digestL voteOkB; rw [hv]; rfl
    have h8 := voteOkB_id (p := p) hv
    have h1 := varL_len p.h; have h2 := varL_len p.r; have h3 := varL_len p.st
    have HX : Hid ((⟨(varL p.h).toArray⟩ ++ ⟨(varL p.r).toArray⟩ ++ ⟨(varL p.st).toArray⟩ ++ p.id : ByteArray) = ⟨(varL p.h ++ varL p.r ++ varL p.st ++ p.id.data.toList).toArray⟩) := by
      show _ = _
      rw [← bcat, ← bcat, ← bcat, ← list_bytes]
    go_enter Tryd.func45, Tryd.ntmps45
    go_wp2_with (go_at_call 43; (with_reducible refine (sVoteOk_any _ _ _ _ _ _).mono ?_); rintro e w1 ⟨rfl, hb⟩)
    have hz : w.heap.size < w1.heap.size := by have := hb.size; rw [World.size_alloc] at this; omega
    have hc := (bcell hb).1
    have t0 : w1.cell? ⟨w.heap.size, 0, none⟩ = some (.int .i64 p.h) := by rw [hc _ _ (by rw [World.size_alloc]; omega)]; simp
    have t1 : w1.cell? ⟨w.heap.size, 1, none⟩ = some (.int .i64 p.r) := by rw [hc _ _ (by rw [World.size_alloc]; omega)]; simp
    have t2 : w1.cell? ⟨w.heap.size, 2, none⟩ = some (.int .i64 p.st) := by rw [hc _ _ (by rw [World.size_alloc]; omega)]; simp
    have t3 : w1.cell? ⟨w.heap.size, 3, none⟩ = some (.string p.id) := by rw [hc _ _ (by rw [World.size_alloc]; omega)]; simp
    clear hc
    have HB := Lib.hid (((Below.refl w.heap.size w).alloc (Nat.le_refl _) _).trans (hb.mono (by rw [World.size_alloc]; omega)))
    clear hb
    go_wp2_with fail
    refine wp_region_below (by kernel_rfl) (by kernel_rfl) ?_
    repeat (first | go_big_quiet_skip | (go_big_quiet_want; go_big_quiet_op; first | go_big_quiet_on | (apply Exists.intro; refine ⟨fun w1 hC => ?_, ?_⟩; (focus (first | rfl | (go_at_call 60; exact quiet_below hC (sVar_any _ _)) | (simp [(bcell hC).1, hz, t0, t1, t2, t3]; done) | (simp [(bcell hC).1, hz, t0, t1, t2, t3]; rfl))); go_big_quiet_on)))
    refine wpQuiet_nil ?_
    intro w2 hb2
    obtain ⟨hc2, hf2, hz2⟩ := bcell hb2
    go_wp2
    go_ret
    exact ⟨by rw [HE.out, ← HX.out]; rfl, HB.out.trans (hb2.mono HB.out.size)⟩

structure EvD where
  a : VoteD
  sa : ByteArray
  b : VoteD
  sb : ByteArray
def evB (e : EvD) : Bool := signedB e.a e.sa && (signedB e.b e.sb && (e.a.v == e.b.v && (e.a.h == e.b.h && (e.a.r == e.b.r && (e.a.st == e.b.st && !(e.a.id.toList == e.b.id.toList))))))

theorem Signed_any (p : VoteD) (sg : ByteArray) (w : World) (ht : Tab w) :
    Calls Tryd.prog 34 #[.agg #[.int .i64 p.h, .int .i64 p.r, .int .i64 p.st, .string p.id, .int .i64 p.v], .string sg] w fun e w' => e = .returned (.bool (signedB p sg)) ∧ Below w.heap.size w w' := by
  have HT := Lib.hid ht; clear ht
  cases hv : voteB p.h p.r p.st p.id p.v
  · have HE : Hid (signedB p sg = false) := by show _ = _; unfold signedB voteOkB; rw [hv]; rfl
    have HVK : ∀ wx : World, Hid (Calls Tryd.prog 47 #[.agg #[.int .i64 p.h, .int .i64 p.r, .int .i64 p.st, .string p.id, .int .i64 p.v]] wx fun e w' => e = .returned (.bool false) ∧ Below wx.heap.size wx w') := fun wx => by
      have h := VoteOk_any p.h p.r p.st p.id p.v wx
      rw [hv] at h
      exact h
    go_enter Tryd.func34, Tryd.ntmps34
    go_wp2_with fail
    have A0 : Blk (w.alloc (.cells #[.int .i64 p.h, .int .i64 p.r, .int .i64 p.st, .string p.id, .int .i64 p.v] 30)) w.heap.size 30 #[.int .i64 p.h, .int .i64 p.r, .int .i64 p.st, .string p.id, .int .i64 p.v] := heap_alloc_new w _
    have HB0 : Hid (Below w.heap.size w (w.alloc (.cells #[.int .i64 p.h, .int .i64 p.r, .int .i64 p.st, .string p.id, .int .i64 p.v] 30))) := (Below.refl _ _).alloc (Nat.le_refl _) _
    generalize w.alloc (.cells #[.int .i64 p.h, .int .i64 p.r, .int .i64 p.st, .string p.id, .int .i64 p.v] 30) = wb at *
    have hz : w.heap.size < wb.heap.size := A0.lt
    have t0 : wb.cell? ⟨w.heap.size, 0, none⟩ = some (.int .i64 p.h) := (A0.cell 0).trans rfl
    have t1 : wb.cell? ⟨w.heap.size, 1, none⟩ = some (.int .i64 p.r) := (A0.cell 1).trans rfl
    have t2 : wb.cell? ⟨w.heap.size, 2, none⟩ = some (.int .i64 p.st) := (A0.cell 2).trans rfl
    have t3 : wb.cell? ⟨w.heap.size, 3, none⟩ = some (.string p.id) := (A0.cell 3).trans rfl
    have t4 : wb.cell? ⟨w.heap.size, 4, none⟩ = some (.int .i64 p.v) := (A0.cell 4).trans rfl
    clear A0
    refine wp_region_below (by kernel_rfl) (by kernel_rfl) ?_
    repeat (first | go_big_quiet_skip | (go_big_quiet_want; go_big_quiet_op; first | go_big_quiet_on | (apply Exists.intro; refine ⟨fun w1 hC => ?_, ?_⟩; (focus (first | rfl | (go_at_call 47; exact quiet_below hC ((HVK _).out)) | (simp [(bcell hC).1, hz, t0, t1, t2, t3, t4]; done) | (simp [(bcell hC).1, hz, t0, t1, t2, t3, t4]; rfl))); go_big_quiet_on)))
    refine wpQuiet_nil ?_
    intro w2 hb2
    obtain ⟨hc2, hf2, hz2⟩ := bcell hb2
    go_wp2
    go_ret
    exact ⟨by rw [HE.out]; rfl, HB0.out.trans (hb2.mono HB0.out.size)⟩
  · have HE : Hid (signedB p sg = (sg.toList == signAsL p.v (digestL p))) := by show _ = _; unfold signedB voteOkB; rw [hv]; rfl
    have hd : (⟨(digestL p).toArray⟩ : ByteArray).size ≤ 2000000 := by rw [size_list]; have := digestL_len p; simp; omega
    have HSA : ∀ wx : World, Tab wx → Hid (Calls Tryd.prog 48 #[.int .i64 p.v, .string ⟨(digestL p).toArray⟩] wx fun e w' => e = .returned (.string ⟨(signAsL p.v (digestL p)).toArray⟩) ∧ Below wx.heap.size wx w') := fun wx hx => SignAs_any p.v ⟨(digestL p).toArray⟩ wx hd hx
    have HD : ∀ wx : World, Hid (Calls Tryd.prog 49 #[.agg #[.int .i64 p.h, .int .i64 p.r, .int .i64 p.st, .string p.id, .int .i64 p.v]] wx fun e w' => e = .returned (.string ⟨(digestL p).toArray⟩) ∧ Below wx.heap.size wx w') := fun wx => Digest_any p wx
    generalize digestL p = dl at *
    generalize signAsL p.v dl = sl at *
    clear hd
    have HVK : ∀ wx : World, Hid (Calls Tryd.prog 47 #[.agg #[.int .i64 p.h, .int .i64 p.r, .int .i64 p.st, .string p.id, .int .i64 p.v]] wx fun e w' => e = .returned (.bool true) ∧ Below wx.heap.size wx w') := fun wx => by
      have h := VoteOk_any p.h p.r p.st p.id p.v wx
      rw [hv] at h
      exact h
    go_enter Tryd.func34, Tryd.ntmps34
    go_wp2_with fail
    have A0 : Blk (w.alloc (.cells #[.int .i64 p.h, .int .i64 p.r, .int .i64 p.st, .string p.id, .int .i64 p.v] 30)) w.heap.size 30 #[.int .i64 p.h, .int .i64 p.r, .int .i64 p.st, .string p.id, .int .i64 p.v] := heap_alloc_new w _
    have HB0 : Hid (Below w.heap.size w (w.alloc (.cells #[.int .i64 p.h, .int .i64 p.r, .int .i64 p.st, .string p.id, .int .i64 p.v] 30))) := (Below.refl _ _).alloc (Nat.le_refl _) _
    generalize w.alloc (.cells #[.int .i64 p.h, .int .i64 p.r, .int .i64 p.st, .string p.id, .int .i64 p.v] 30) = wb at *
    have hz : w.heap.size < wb.heap.size := A0.lt
    have t0 : wb.cell? ⟨w.heap.size, 0, none⟩ = some (.int .i64 p.h) := (A0.cell 0).trans rfl
    have t1 : wb.cell? ⟨w.heap.size, 1, none⟩ = some (.int .i64 p.r) := (A0.cell 1).trans rfl
    have t2 : wb.cell? ⟨w.heap.size, 2, none⟩ = some (.int .i64 p.st) := (A0.cell 2).trans rfl
    have t3 : wb.cell? ⟨w.heap.size, 3, none⟩ = some (.string p.id) := (A0.cell 3).trans rfl
    have t4 : wb.cell? ⟨w.heap.size, 4, none⟩ = some (.int .i64 p.v) := (A0.cell 4).trans rfl
    clear A0
    refine wp_region_below (by kernel_rfl) (by kernel_rfl) ?_
    repeat (first | go_big_quiet_skip | (go_big_quiet_want; go_big_quiet_op; first | go_big_quiet_on | (apply Exists.intro; refine ⟨fun w1 hC => ?_, ?_⟩; (focus (first | rfl | (go_at_call 47; exact quiet_below hC ((HVK _).out)) | (go_at_call 49; exact quiet_below hC ((HD _).out)) | (go_at_call 48; exact quiet_below hC ((HSA _ (by exact (HT.out.below HB0.out HT.out.pos).below hC (by omega))).out)) | (simp [(bcell hC).1, hz, t0, t1, t2, t3, t4]; done) | (simp [(bcell hC).1, hz, t0, t1, t2, t3, t4]; rfl))); go_big_quiet_on)))
    refine wpQuiet_nil ?_
    intro w2 hb2
    obtain ⟨hc2, hf2, hz2⟩ := bcell hb2
    go_wp2
    go_ret
    exact ⟨by rw [HE.out]; first | rfl | (congr 2; simp), HB0.out.trans (hb2.mono HB0.out.size)⟩

theorem sSigned_any (p : VoteD) (sg : ByteArray) (w : World) :
    Calls Tryd.prog 32 #[.agg #[.int .i64 p.h, .int .i64 p.r, .int .i64 p.st, .string p.id, .int .i64 p.v], .string sg] w fun e w' => e = .returned (.bool (signedB p sg)) ∧ Below w.heap.size w w' := by
  skip
  cases hv : voteB p.h p.r p.st p.id p.v
  · have HE : Hid (signedB p sg = false) := by show _ = _; unfold signedB voteOkB; rw [hv]; rfl
    have HVK : ∀ wx : World, Hid (Calls Tryd.prog 43 #[.agg #[.int .i64 p.h, .int .i64 p.r, .int .i64 p.st, .string p.id, .int .i64 p.v]] wx fun e w' => e = .returned (.bool false) ∧ Below wx.heap.size wx w') := fun wx => by
      have h := sVoteOk_any p.h p.r p.st p.id p.v wx
      rw [hv] at h
      exact h
    go_enter Tryd.func32, Tryd.ntmps32
    go_wp2_with fail
    have A0 : Blk (w.alloc (.cells #[.int .i64 p.h, .int .i64 p.r, .int .i64 p.st, .string p.id, .int .i64 p.v] 30)) w.heap.size 30 #[.int .i64 p.h, .int .i64 p.r, .int .i64 p.st, .string p.id, .int .i64 p.v] := heap_alloc_new w _
    have HB0 : Hid (Below w.heap.size w (w.alloc (.cells #[.int .i64 p.h, .int .i64 p.r, .int .i64 p.st, .string p.id, .int .i64 p.v] 30))) := (Below.refl _ _).alloc (Nat.le_refl _) _
    generalize w.alloc (.cells #[.int .i64 p.h, .int .i64 p.r, .int .i64 p.st, .string p.id, .int .i64 p.v] 30) = wb at *
    have hz : w.heap.size < wb.heap.size := A0.lt
    have t0 : wb.cell? ⟨w.heap.size, 0, none⟩ = some (.int .i64 p.h) := (A0.cell 0).trans rfl
    have t1 : wb.cell? ⟨w.heap.size, 1, none⟩ = some (.int .i64 p.r) := (A0.cell 1).trans rfl
    have t2 : wb.cell? ⟨w.heap.size, 2, none⟩ = some (.int .i64 p.st) := (A0.cell 2).trans rfl
    have t3 : wb.cell? ⟨w.heap.size, 3, none⟩ = some (.string p.id) := (A0.cell 3).trans rfl
    have t4 : wb.cell? ⟨w.heap.size, 4, none⟩ = some (.int .i64 p.v) := (A0.cell 4).trans rfl
    clear A0
    refine wp_region_below (by kernel_rfl) (by kernel_rfl) ?_
    repeat (first | go_big_quiet_skip | (go_big_quiet_want; go_big_quiet_op; first | go_big_quiet_on | (apply Exists.intro; refine ⟨fun w1 hC => ?_, ?_⟩; (focus (first | rfl | (go_at_call 43; exact quiet_below hC ((HVK _).out)) | (simp [(bcell hC).1, hz, t0, t1, t2, t3, t4]; done) | (simp [(bcell hC).1, hz, t0, t1, t2, t3, t4]; rfl))); go_big_quiet_on)))
    refine wpQuiet_nil ?_
    intro w2 hb2
    obtain ⟨hc2, hf2, hz2⟩ := bcell hb2
    go_wp2
    go_ret
    exact ⟨by rw [HE.out]; rfl, HB0.out.trans (hb2.mono HB0.out.size)⟩
  · have HE : Hid (signedB p sg = (sg.toList == signAsL p.v (digestL p))) := by show _ = _; unfold signedB voteOkB; rw [hv]; rfl
    have hd : (⟨(digestL p).toArray⟩ : ByteArray).size ≤ 2000000 := by rw [size_list]; have := digestL_len p; simp; omega
    have HSA : ∀ wx : World, Hid (Calls Tryd.prog 44 #[.int .i64 p.v, .string ⟨(digestL p).toArray⟩] wx fun e w' => e = .returned (.string ⟨(signAsL p.v (digestL p)).toArray⟩) ∧ Below wx.heap.size wx w') := fun wx => sSignAs_any p.v ⟨(digestL p).toArray⟩ wx hd
    have HD : ∀ wx : World, Hid (Calls Tryd.prog 45 #[.agg #[.int .i64 p.h, .int .i64 p.r, .int .i64 p.st, .string p.id, .int .i64 p.v]] wx fun e w' => e = .returned (.string ⟨(digestL p).toArray⟩) ∧ Below wx.heap.size wx w') := fun wx => sDigest_any p wx
    generalize digestL p = dl at *
    generalize signAsL p.v dl = sl at *
    clear hd
    have HVK : ∀ wx : World, Hid (Calls Tryd.prog 43 #[.agg #[.int .i64 p.h, .int .i64 p.r, .int .i64 p.st, .string p.id, .int .i64 p.v]] wx fun e w' => e = .returned (.bool true) ∧ Below wx.heap.size wx w') := fun wx => by
      have h := sVoteOk_any p.h p.r p.st p.id p.v wx
      rw [hv] at h
      exact h
    go_enter Tryd.func32, Tryd.ntmps32
    go_wp2_with fail
    have A0 : Blk (w.alloc (.cells #[.int .i64 p.h, .int .i64 p.r, .int .i64 p.st, .string p.id, .int .i64 p.v] 30)) w.heap.size 30 #[.int .i64 p.h, .int .i64 p.r, .int .i64 p.st, .string p.id, .int .i64 p.v] := heap_alloc_new w _
    have HB0 : Hid (Below w.heap.size w (w.alloc (.cells #[.int .i64 p.h, .int .i64 p.r, .int .i64 p.st, .string p.id, .int .i64 p.v] 30))) := (Below.refl _ _).alloc (Nat.le_refl _) _
    generalize w.alloc (.cells #[.int .i64 p.h, .int .i64 p.r, .int .i64 p.st, .string p.id, .int .i64 p.v] 30) = wb at *
    have hz : w.heap.size < wb.heap.size := A0.lt
    have t0 : wb.cell? ⟨w.heap.size, 0, none⟩ = some (.int .i64 p.h) := (A0.cell 0).trans rfl
    have t1 : wb.cell? ⟨w.heap.size, 1, none⟩ = some (.int .i64 p.r) := (A0.cell 1).trans rfl
    have t2 : wb.cell? ⟨w.heap.size, 2, none⟩ = some (.int .i64 p.st) := (A0.cell 2).trans rfl
    have t3 : wb.cell? ⟨w.heap.size, 3, none⟩ = some (.string p.id) := (A0.cell 3).trans rfl
    have t4 : wb.cell? ⟨w.heap.size, 4, none⟩ = some (.int .i64 p.v) := (A0.cell 4).trans rfl
    clear A0
    refine wp_region_below (by kernel_rfl) (by kernel_rfl) ?_
    repeat (first | go_big_quiet_skip | (go_big_quiet_want; go_big_quiet_op; first | go_big_quiet_on | (apply Exists.intro; refine ⟨fun w1 hC => ?_, ?_⟩; (focus (first | rfl | (go_at_call 43; exact quiet_below hC ((HVK _).out)) | (go_at_call 45; exact quiet_below hC ((HD _).out)) | (go_at_call 44; exact quiet_below hC ((HSA _).out)) | (simp [(bcell hC).1, hz, t0, t1, t2, t3, t4]; done) | (simp [(bcell hC).1, hz, t0, t1, t2, t3, t4]; rfl))); go_big_quiet_on)))
    refine wpQuiet_nil ?_
    intro w2 hb2
    obtain ⟨hc2, hf2, hz2⟩ := bcell hb2
    go_wp2
    go_ret
    exact ⟨by rw [HE.out]; first | rfl | (congr 2; simp), HB0.out.trans (hb2.mono HB0.out.size)⟩

set_option maxHeartbeats 1000000 in
theorem EvidOk_any (e : EvD) (w : World) (ht : Tab w) :
    Calls Tryd.prog 11 #[.agg #[.int .i64 e.a.h, .int .i64 e.a.r, .int .i64 e.a.st, .string e.a.id, .int .i64 e.a.v, .string e.sa, .int .i64 e.b.h, .int .i64 e.b.r, .int .i64 e.b.st, .string e.b.id, .int .i64 e.b.v, .string e.sb]] w fun r w' => r = .returned (.bool (evB e)) ∧ Below w.heap.size w w' := by
  have HT := Lib.hid ht; clear ht
  have HA : ∀ wx : World, Tab wx → Hid (Calls Tryd.prog 34 #[.agg #[.int .i64 e.a.h, .int .i64 e.a.r, .int .i64 e.a.st, .string e.a.id, .int .i64 e.a.v], .string e.sa] wx fun r w' => r = .returned (.bool (signedB e.a e.sa)) ∧ Below wx.heap.size wx w') := fun wx hx => Signed_any e.a e.sa wx hx
  have HB : ∀ wx : World, Tab wx → Hid (Calls Tryd.prog 34 #[.agg #[.int .i64 e.b.h, .int .i64 e.b.r, .int .i64 e.b.st, .string e.b.id, .int .i64 e.b.v], .string e.sb] wx fun r w' => r = .returned (.bool (signedB e.b e.sb)) ∧ Below wx.heap.size wx w') := fun wx hx => Signed_any e.b e.sb wx hx
  have HE : Hid (evB e = (signedB e.a e.sa && (signedB e.b e.sb && (e.a.v == e.b.v && (e.a.h == e.b.h && (e.a.r == e.b.r && (e.a.st == e.b.st && !(e.a.id.toList == e.b.id.toList)))))))) := rfl
  generalize signedB e.a e.sa = ga at *
  generalize signedB e.b e.sb = gb at *
  go_enter Tryd.func11, Tryd.ntmps11
  go_wp2_with fail
  have A0 : Blk (w.alloc (.cells #[.int .i64 e.a.h, .int .i64 e.a.r, .int .i64 e.a.st, .string e.a.id, .int .i64 e.a.v, .string e.sa, .int .i64 e.b.h, .int .i64 e.b.r, .int .i64 e.b.st, .string e.b.id, .int .i64 e.b.v, .string e.sb] 34)) w.heap.size 34 #[.int .i64 e.a.h, .int .i64 e.a.r, .int .i64 e.a.st, .string e.a.id, .int .i64 e.a.v, .string e.sa, .int .i64 e.b.h, .int .i64 e.b.r, .int .i64 e.b.st, .string e.b.id, .int .i64 e.b.v, .string e.sb] := heap_alloc_new w _
  have HB0 : Hid (Below w.heap.size w (w.alloc (.cells #[.int .i64 e.a.h, .int .i64 e.a.r, .int .i64 e.a.st, .string e.a.id, .int .i64 e.a.v, .string e.sa, .int .i64 e.b.h, .int .i64 e.b.r, .int .i64 e.b.st, .string e.b.id, .int .i64 e.b.v, .string e.sb] 34))) := (Below.refl _ _).alloc (Nat.le_refl _) _
  go_region
  · skip
    have QE : Hid (Blk (World.drew (((w.alloc (.cells #[.int .i64 e.a.h, .int .i64 e.a.r, .int .i64 e.a.st, .string e.a.id, .int .i64 e.a.v, .string e.sa, .int .i64 e.b.h, .int .i64 e.b.r, .int .i64 e.b.st, .string e.b.id, .int .i64 e.b.v, .string e.sb] 34)).alloc (.cells #[.int .i64 e.a.h, .int .i64 e.a.r, .int .i64 e.a.st, .string e.a.id, .int .i64 e.a.v] 30)).alloc (.cells #[.int .i64 e.b.h, .int .i64 e.b.r, .int .i64 e.b.st, .string e.b.id, .int .i64 e.b.v] 30))) w.heap.size 34 #[.int .i64 e.a.h, .int .i64 e.a.r, .int .i64 e.a.st, .string e.a.id, .int .i64 e.a.v, .string e.sa, .int .i64 e.b.h, .int .i64 e.b.r, .int .i64 e.b.st, .string e.b.id, .int .i64 e.b.v, .string e.sb]) := (A0.alloc _).alloc _
    have QA : Hid (Blk (World.drew (((w.alloc (.cells #[.int .i64 e.a.h, .int .i64 e.a.r, .int .i64 e.a.st, .string e.a.id, .int .i64 e.a.v, .string e.sa, .int .i64 e.b.h, .int .i64 e.b.r, .int .i64 e.b.st, .string e.b.id, .int .i64 e.b.v, .string e.sb] 34)).alloc (.cells #[.int .i64 e.a.h, .int .i64 e.a.r, .int .i64 e.a.st, .string e.a.id, .int .i64 e.a.v] 30)).alloc (.cells #[.int .i64 e.b.h, .int .i64 e.b.r, .int .i64 e.b.st, .string e.b.id, .int .i64 e.b.v] 30))) (w.heap.size + 1) 30 #[.int .i64 e.a.h, .int .i64 e.a.r, .int .i64 e.a.st, .string e.a.id, .int .i64 e.a.v]) := Blk.alloc (blk_newAt (w.alloc (.cells #[.int .i64 e.a.h, .int .i64 e.a.r, .int .i64 e.a.st, .string e.a.id, .int .i64 e.a.v, .string e.sa, .int .i64 e.b.h, .int .i64 e.b.r, .int .i64 e.b.st, .string e.b.id, .int .i64 e.b.v, .string e.sb] 34)) (w.heap.size + 1) _ _ (World.size_alloc _ _)) _
    have QB : Hid (Blk (World.drew (((w.alloc (.cells #[.int .i64 e.a.h, .int .i64 e.a.r, .int .i64 e.a.st, .string e.a.id, .int .i64 e.a.v, .string e.sa, .int .i64 e.b.h, .int .i64 e.b.r, .int .i64 e.b.st, .string e.b.id, .int .i64 e.b.v, .string e.sb] 34)).alloc (.cells #[.int .i64 e.a.h, .int .i64 e.a.r, .int .i64 e.a.st, .string e.a.id, .int .i64 e.a.v] 30)).alloc (.cells #[.int .i64 e.b.h, .int .i64 e.b.r, .int .i64 e.b.st, .string e.b.id, .int .i64 e.b.v] 30))) (w.heap.size + 1 + 1) 30 #[.int .i64 e.b.h, .int .i64 e.b.r, .int .i64 e.b.st, .string e.b.id, .int .i64 e.b.v]) := blk_newAt ((w.alloc (.cells #[.int .i64 e.a.h, .int .i64 e.a.r, .int .i64 e.a.st, .string e.a.id, .int .i64 e.a.v, .string e.sa, .int .i64 e.b.h, .int .i64 e.b.r, .int .i64 e.b.st, .string e.b.id, .int .i64 e.b.v, .string e.sb] 34)).alloc (.cells #[.int .i64 e.a.h, .int .i64 e.a.r, .int .i64 e.a.st, .string e.a.id, .int .i64 e.a.v] 30)) (w.heap.size + 1 + 1) _ _ (by rw [World.size_alloc, World.size_alloc])
    have HBq : Hid (Below w.heap.size w (World.drew (((w.alloc (.cells #[.int .i64 e.a.h, .int .i64 e.a.r, .int .i64 e.a.st, .string e.a.id, .int .i64 e.a.v, .string e.sa, .int .i64 e.b.h, .int .i64 e.b.r, .int .i64 e.b.st, .string e.b.id, .int .i64 e.b.v, .string e.sb] 34)).alloc (.cells #[.int .i64 e.a.h, .int .i64 e.a.r, .int .i64 e.a.st, .string e.a.id, .int .i64 e.a.v] 30)).alloc (.cells #[.int .i64 e.b.h, .int .i64 e.b.r, .int .i64 e.b.st, .string e.b.id, .int .i64 e.b.v] 30)))) := Below.drew <| (HB0.out.alloc (by rw [World.size_alloc]; omega) _).alloc (by rw [World.size_alloc, World.size_alloc]; omega) _
    have HT3 : Hid (Tab (World.drew (((w.alloc (.cells #[.int .i64 e.a.h, .int .i64 e.a.r, .int .i64 e.a.st, .string e.a.id, .int .i64 e.a.v, .string e.sa, .int .i64 e.b.h, .int .i64 e.b.r, .int .i64 e.b.st, .string e.b.id, .int .i64 e.b.v, .string e.sb] 34)).alloc (.cells #[.int .i64 e.a.h, .int .i64 e.a.r, .int .i64 e.a.st, .string e.a.id, .int .i64 e.a.v] 30)).alloc (.cells #[.int .i64 e.b.h, .int .i64 e.b.r, .int .i64 e.b.st, .string e.b.id, .int .i64 e.b.v] 30)))) := HT.out.below HBq.out HT.out.pos
    generalize World.drew (((w.alloc (.cells #[.int .i64 e.a.h, .int .i64 e.a.r, .int .i64 e.a.st, .string e.a.id, .int .i64 e.a.v, .string e.sa, .int .i64 e.b.h, .int .i64 e.b.r, .int .i64 e.b.st, .string e.b.id, .int .i64 e.b.v, .string e.sb] 34)).alloc (.cells #[.int .i64 e.a.h, .int .i64 e.a.r, .int .i64 e.a.st, .string e.a.id, .int .i64 e.a.v] 30)).alloc (.cells #[.int .i64 e.b.h, .int .i64 e.b.r, .int .i64 e.b.st, .string e.b.id, .int .i64 e.b.v] 30)) = wq at *
    have Z3 : Hid (w.heap.size + 2 < wq.heap.size) := by have := QB.out.lt; have := QA.out.lt; show _ < _; omega
    have q5 : wq.cell? ⟨w.heap.size, 5, none⟩ = some (.string e.sa) := (QE.out.cell 5).trans rfl
    have q11 : wq.cell? ⟨w.heap.size, 11, none⟩ = some (.string e.sb) := (QE.out.cell 11).trans rfl
    have a0 : wq.cell? ⟨w.heap.size + 1, 0, none⟩ = some (.int .i64 e.a.h) := (QA.out.cell 0).trans rfl
    have a1 : wq.cell? ⟨w.heap.size + 1, 1, none⟩ = some (.int .i64 e.a.r) := (QA.out.cell 1).trans rfl
    have a2 : wq.cell? ⟨w.heap.size + 1, 2, none⟩ = some (.int .i64 e.a.st) := (QA.out.cell 2).trans rfl
    have a3 : wq.cell? ⟨w.heap.size + 1, 3, none⟩ = some (.string e.a.id) := (QA.out.cell 3).trans rfl
    have a4 : wq.cell? ⟨w.heap.size + 1, 4, none⟩ = some (.int .i64 e.a.v) := (QA.out.cell 4).trans rfl
    have b0 : wq.cell? ⟨w.heap.size + 1 + 1, 0, none⟩ = some (.int .i64 e.b.h) := (QB.out.cell 0).trans rfl
    have b1 : wq.cell? ⟨w.heap.size + 1 + 1, 1, none⟩ = some (.int .i64 e.b.r) := (QB.out.cell 1).trans rfl
    have b2 : wq.cell? ⟨w.heap.size + 1 + 1, 2, none⟩ = some (.int .i64 e.b.st) := (QB.out.cell 2).trans rfl
    have b3 : wq.cell? ⟨w.heap.size + 1 + 1, 3, none⟩ = some (.string e.b.id) := (QB.out.cell 3).trans rfl
    have b4 : wq.cell? ⟨w.heap.size + 1 + 1, 4, none⟩ = some (.int .i64 e.b.v) := (QB.out.cell 4).trans rfl
    cases ga
    · go_wp2_with (go_at_call 34; (with_reducible refine (HA _ (by exact HT3.out)).out.mono ?_); rintro r w1 ⟨rfl, hb1⟩; have E1 := QE.out.below hb1 QE.out.lt; have A1 := QA.out.below hb1 QA.out.lt; have B1 := QB.out.below hb1 QB.out.lt; have qa5 : w1.cell? ⟨w.heap.size, 5, none⟩ = some (.string e.sa) := (E1.cell 5).trans rfl; have qa11 : w1.cell? ⟨w.heap.size, 11, none⟩ = some (.string e.sb) := (E1.cell 11).trans rfl; have aa0 : w1.cell? ⟨w.heap.size + 1, 0, none⟩ = some (.int .i64 e.a.h) := (A1.cell 0).trans rfl; have aa1 : w1.cell? ⟨w.heap.size + 1, 1, none⟩ = some (.int .i64 e.a.r) := (A1.cell 1).trans rfl; have aa2 : w1.cell? ⟨w.heap.size + 1, 2, none⟩ = some (.int .i64 e.a.st) := (A1.cell 2).trans rfl; have aa3 : w1.cell? ⟨w.heap.size + 1, 3, none⟩ = some (.string e.a.id) := (A1.cell 3).trans rfl; have aa4 : w1.cell? ⟨w.heap.size + 1, 4, none⟩ = some (.int .i64 e.a.v) := (A1.cell 4).trans rfl; have ba0 : w1.cell? ⟨w.heap.size + 1 + 1, 0, none⟩ = some (.int .i64 e.b.h) := (B1.cell 0).trans rfl; have ba1 : w1.cell? ⟨w.heap.size + 1 + 1, 1, none⟩ = some (.int .i64 e.b.r) := (B1.cell 1).trans rfl; have ba2 : w1.cell? ⟨w.heap.size + 1 + 1, 2, none⟩ = some (.int .i64 e.b.st) := (B1.cell 2).trans rfl; have ba3 : w1.cell? ⟨w.heap.size + 1 + 1, 3, none⟩ = some (.string e.b.id) := (B1.cell 3).trans rfl; have ba4 : w1.cell? ⟨w.heap.size + 1 + 1, 4, none⟩ = some (.int .i64 e.b.v) := (B1.cell 4).trans rfl; have HX1 := Lib.hid hb1)
      go_ret
      exact ⟨by rw [HE.out]; rfl, HBq.out.trans (hb1.mono HBq.out.size)⟩
    · cases gb
      all_goals
        go_wp2_with (first | (go_at_call 34; (with_reducible refine (HA _ (by exact HT3.out)).out.mono ?_); rintro r w1 ⟨rfl, hb1⟩; have E1 := QE.out.below hb1 QE.out.lt; have A1 := QA.out.below hb1 QA.out.lt; have B1 := QB.out.below hb1 QB.out.lt; have qa5 : w1.cell? ⟨w.heap.size, 5, none⟩ = some (.string e.sa) := (E1.cell 5).trans rfl; have qa11 : w1.cell? ⟨w.heap.size, 11, none⟩ = some (.string e.sb) := (E1.cell 11).trans rfl; have aa0 : w1.cell? ⟨w.heap.size + 1, 0, none⟩ = some (.int .i64 e.a.h) := (A1.cell 0).trans rfl; have aa1 : w1.cell? ⟨w.heap.size + 1, 1, none⟩ = some (.int .i64 e.a.r) := (A1.cell 1).trans rfl; have aa2 : w1.cell? ⟨w.heap.size + 1, 2, none⟩ = some (.int .i64 e.a.st) := (A1.cell 2).trans rfl; have aa3 : w1.cell? ⟨w.heap.size + 1, 3, none⟩ = some (.string e.a.id) := (A1.cell 3).trans rfl; have aa4 : w1.cell? ⟨w.heap.size + 1, 4, none⟩ = some (.int .i64 e.a.v) := (A1.cell 4).trans rfl; have ba0 : w1.cell? ⟨w.heap.size + 1 + 1, 0, none⟩ = some (.int .i64 e.b.h) := (B1.cell 0).trans rfl; have ba1 : w1.cell? ⟨w.heap.size + 1 + 1, 1, none⟩ = some (.int .i64 e.b.r) := (B1.cell 1).trans rfl; have ba2 : w1.cell? ⟨w.heap.size + 1 + 1, 2, none⟩ = some (.int .i64 e.b.st) := (B1.cell 2).trans rfl; have ba3 : w1.cell? ⟨w.heap.size + 1 + 1, 3, none⟩ = some (.string e.b.id) := (B1.cell 3).trans rfl; have ba4 : w1.cell? ⟨w.heap.size + 1 + 1, 4, none⟩ = some (.int .i64 e.b.v) := (B1.cell 4).trans rfl; have HX1 := Lib.hid hb1) | (go_at_call 34; (with_reducible refine (HB _ (by exact HT3.out.below hb1 HT3.out.pos)).out.mono ?_); rintro r w2 ⟨rfl, hb2⟩; have A2 := A1.below hb2 A1.lt; have B2 := B1.below hb2 B1.lt; have ab0 : w2.cell? ⟨w.heap.size + 1, 0, none⟩ = some (.int .i64 e.a.h) := (A2.cell 0).trans rfl; have ab1 : w2.cell? ⟨w.heap.size + 1, 1, none⟩ = some (.int .i64 e.a.r) := (A2.cell 1).trans rfl; have ab2 : w2.cell? ⟨w.heap.size + 1, 2, none⟩ = some (.int .i64 e.a.st) := (A2.cell 2).trans rfl; have ab3 : w2.cell? ⟨w.heap.size + 1, 3, none⟩ = some (.string e.a.id) := (A2.cell 3).trans rfl; have ab4 : w2.cell? ⟨w.heap.size + 1, 4, none⟩ = some (.int .i64 e.a.v) := (A2.cell 4).trans rfl; have bb0 : w2.cell? ⟨w.heap.size + 1 + 1, 0, none⟩ = some (.int .i64 e.b.h) := (B2.cell 0).trans rfl; have bb1 : w2.cell? ⟨w.heap.size + 1 + 1, 1, none⟩ = some (.int .i64 e.b.r) := (B2.cell 1).trans rfl; have bb2 : w2.cell? ⟨w.heap.size + 1 + 1, 2, none⟩ = some (.int .i64 e.b.st) := (B2.cell 2).trans rfl; have bb3 : w2.cell? ⟨w.heap.size + 1 + 1, 3, none⟩ = some (.string e.b.id) := (B2.cell 3).trans rfl; have bb4 : w2.cell? ⟨w.heap.size + 1 + 1, 4, none⟩ = some (.int .i64 e.b.v) := (B2.cell 4).trans rfl))
        all_goals
          go_ret
          refine ⟨?_, (HBq.out.trans (hb1.mono HBq.out.size)).trans (hb2.mono (Nat.le_trans HBq.out.size hb1.size))⟩
          rw [HE.out]
          first | rfl | (simp [*]; done) | (simp_all; done)
  · skip
    have QE : Hid (Blk (World.drew (((w.alloc (.cells #[.int .i64 e.a.h, .int .i64 e.a.r, .int .i64 e.a.st, .string e.a.id, .int .i64 e.a.v, .string e.sa, .int .i64 e.b.h, .int .i64 e.b.r, .int .i64 e.b.st, .string e.b.id, .int .i64 e.b.v, .string e.sb] 34)).alloc (.cells #[.int .i64 e.b.h, .int .i64 e.b.r, .int .i64 e.b.st, .string e.b.id, .int .i64 e.b.v] 30)).alloc (.cells #[.int .i64 e.a.h, .int .i64 e.a.r, .int .i64 e.a.st, .string e.a.id, .int .i64 e.a.v] 30))) w.heap.size 34 #[.int .i64 e.a.h, .int .i64 e.a.r, .int .i64 e.a.st, .string e.a.id, .int .i64 e.a.v, .string e.sa, .int .i64 e.b.h, .int .i64 e.b.r, .int .i64 e.b.st, .string e.b.id, .int .i64 e.b.v, .string e.sb]) := (A0.alloc _).alloc _
    have QA : Hid (Blk (World.drew (((w.alloc (.cells #[.int .i64 e.a.h, .int .i64 e.a.r, .int .i64 e.a.st, .string e.a.id, .int .i64 e.a.v, .string e.sa, .int .i64 e.b.h, .int .i64 e.b.r, .int .i64 e.b.st, .string e.b.id, .int .i64 e.b.v, .string e.sb] 34)).alloc (.cells #[.int .i64 e.b.h, .int .i64 e.b.r, .int .i64 e.b.st, .string e.b.id, .int .i64 e.b.v] 30)).alloc (.cells #[.int .i64 e.a.h, .int .i64 e.a.r, .int .i64 e.a.st, .string e.a.id, .int .i64 e.a.v] 30))) (w.heap.size + 1 + 1) 30 #[.int .i64 e.a.h, .int .i64 e.a.r, .int .i64 e.a.st, .string e.a.id, .int .i64 e.a.v]) := blk_newAt ((w.alloc (.cells #[.int .i64 e.a.h, .int .i64 e.a.r, .int .i64 e.a.st, .string e.a.id, .int .i64 e.a.v, .string e.sa, .int .i64 e.b.h, .int .i64 e.b.r, .int .i64 e.b.st, .string e.b.id, .int .i64 e.b.v, .string e.sb] 34)).alloc (.cells #[.int .i64 e.b.h, .int .i64 e.b.r, .int .i64 e.b.st, .string e.b.id, .int .i64 e.b.v] 30)) (w.heap.size + 1 + 1) _ _ (by rw [World.size_alloc, World.size_alloc])
    have QB : Hid (Blk (World.drew (((w.alloc (.cells #[.int .i64 e.a.h, .int .i64 e.a.r, .int .i64 e.a.st, .string e.a.id, .int .i64 e.a.v, .string e.sa, .int .i64 e.b.h, .int .i64 e.b.r, .int .i64 e.b.st, .string e.b.id, .int .i64 e.b.v, .string e.sb] 34)).alloc (.cells #[.int .i64 e.b.h, .int .i64 e.b.r, .int .i64 e.b.st, .string e.b.id, .int .i64 e.b.v] 30)).alloc (.cells #[.int .i64 e.a.h, .int .i64 e.a.r, .int .i64 e.a.st, .string e.a.id, .int .i64 e.a.v] 30))) (w.heap.size + 1) 30 #[.int .i64 e.b.h, .int .i64 e.b.r, .int .i64 e.b.st, .string e.b.id, .int .i64 e.b.v]) := Blk.alloc (blk_newAt (w.alloc (.cells #[.int .i64 e.a.h, .int .i64 e.a.r, .int .i64 e.a.st, .string e.a.id, .int .i64 e.a.v, .string e.sa, .int .i64 e.b.h, .int .i64 e.b.r, .int .i64 e.b.st, .string e.b.id, .int .i64 e.b.v, .string e.sb] 34)) (w.heap.size + 1) _ _ (World.size_alloc _ _)) _
    have HBq : Hid (Below w.heap.size w (World.drew (((w.alloc (.cells #[.int .i64 e.a.h, .int .i64 e.a.r, .int .i64 e.a.st, .string e.a.id, .int .i64 e.a.v, .string e.sa, .int .i64 e.b.h, .int .i64 e.b.r, .int .i64 e.b.st, .string e.b.id, .int .i64 e.b.v, .string e.sb] 34)).alloc (.cells #[.int .i64 e.b.h, .int .i64 e.b.r, .int .i64 e.b.st, .string e.b.id, .int .i64 e.b.v] 30)).alloc (.cells #[.int .i64 e.a.h, .int .i64 e.a.r, .int .i64 e.a.st, .string e.a.id, .int .i64 e.a.v] 30)))) := Below.drew <| (HB0.out.alloc (by rw [World.size_alloc]; omega) _).alloc (by rw [World.size_alloc, World.size_alloc]; omega) _
    have HT3 : Hid (Tab (World.drew (((w.alloc (.cells #[.int .i64 e.a.h, .int .i64 e.a.r, .int .i64 e.a.st, .string e.a.id, .int .i64 e.a.v, .string e.sa, .int .i64 e.b.h, .int .i64 e.b.r, .int .i64 e.b.st, .string e.b.id, .int .i64 e.b.v, .string e.sb] 34)).alloc (.cells #[.int .i64 e.b.h, .int .i64 e.b.r, .int .i64 e.b.st, .string e.b.id, .int .i64 e.b.v] 30)).alloc (.cells #[.int .i64 e.a.h, .int .i64 e.a.r, .int .i64 e.a.st, .string e.a.id, .int .i64 e.a.v] 30)))) := HT.out.below HBq.out HT.out.pos
    generalize World.drew (((w.alloc (.cells #[.int .i64 e.a.h, .int .i64 e.a.r, .int .i64 e.a.st, .string e.a.id, .int .i64 e.a.v, .string e.sa, .int .i64 e.b.h, .int .i64 e.b.r, .int .i64 e.b.st, .string e.b.id, .int .i64 e.b.v, .string e.sb] 34)).alloc (.cells #[.int .i64 e.b.h, .int .i64 e.b.r, .int .i64 e.b.st, .string e.b.id, .int .i64 e.b.v] 30)).alloc (.cells #[.int .i64 e.a.h, .int .i64 e.a.r, .int .i64 e.a.st, .string e.a.id, .int .i64 e.a.v] 30)) = wq at *
    have Z3 : Hid (w.heap.size + 2 < wq.heap.size) := by have := QB.out.lt; have := QA.out.lt; show _ < _; omega
    have q5 : wq.cell? ⟨w.heap.size, 5, none⟩ = some (.string e.sa) := (QE.out.cell 5).trans rfl
    have q11 : wq.cell? ⟨w.heap.size, 11, none⟩ = some (.string e.sb) := (QE.out.cell 11).trans rfl
    have a0 : wq.cell? ⟨w.heap.size + 1 + 1, 0, none⟩ = some (.int .i64 e.a.h) := (QA.out.cell 0).trans rfl
    have a1 : wq.cell? ⟨w.heap.size + 1 + 1, 1, none⟩ = some (.int .i64 e.a.r) := (QA.out.cell 1).trans rfl
    have a2 : wq.cell? ⟨w.heap.size + 1 + 1, 2, none⟩ = some (.int .i64 e.a.st) := (QA.out.cell 2).trans rfl
    have a3 : wq.cell? ⟨w.heap.size + 1 + 1, 3, none⟩ = some (.string e.a.id) := (QA.out.cell 3).trans rfl
    have a4 : wq.cell? ⟨w.heap.size + 1 + 1, 4, none⟩ = some (.int .i64 e.a.v) := (QA.out.cell 4).trans rfl
    have b0 : wq.cell? ⟨w.heap.size + 1, 0, none⟩ = some (.int .i64 e.b.h) := (QB.out.cell 0).trans rfl
    have b1 : wq.cell? ⟨w.heap.size + 1, 1, none⟩ = some (.int .i64 e.b.r) := (QB.out.cell 1).trans rfl
    have b2 : wq.cell? ⟨w.heap.size + 1, 2, none⟩ = some (.int .i64 e.b.st) := (QB.out.cell 2).trans rfl
    have b3 : wq.cell? ⟨w.heap.size + 1, 3, none⟩ = some (.string e.b.id) := (QB.out.cell 3).trans rfl
    have b4 : wq.cell? ⟨w.heap.size + 1, 4, none⟩ = some (.int .i64 e.b.v) := (QB.out.cell 4).trans rfl
    cases ga
    · go_wp2_with (go_at_call 34; (with_reducible refine (HA _ (by exact HT3.out)).out.mono ?_); rintro r w1 ⟨rfl, hb1⟩; have E1 := QE.out.below hb1 QE.out.lt; have A1 := QA.out.below hb1 QA.out.lt; have B1 := QB.out.below hb1 QB.out.lt; have qa5 : w1.cell? ⟨w.heap.size, 5, none⟩ = some (.string e.sa) := (E1.cell 5).trans rfl; have qa11 : w1.cell? ⟨w.heap.size, 11, none⟩ = some (.string e.sb) := (E1.cell 11).trans rfl; have aa0 : w1.cell? ⟨w.heap.size + 1 + 1, 0, none⟩ = some (.int .i64 e.a.h) := (A1.cell 0).trans rfl; have aa1 : w1.cell? ⟨w.heap.size + 1 + 1, 1, none⟩ = some (.int .i64 e.a.r) := (A1.cell 1).trans rfl; have aa2 : w1.cell? ⟨w.heap.size + 1 + 1, 2, none⟩ = some (.int .i64 e.a.st) := (A1.cell 2).trans rfl; have aa3 : w1.cell? ⟨w.heap.size + 1 + 1, 3, none⟩ = some (.string e.a.id) := (A1.cell 3).trans rfl; have aa4 : w1.cell? ⟨w.heap.size + 1 + 1, 4, none⟩ = some (.int .i64 e.a.v) := (A1.cell 4).trans rfl; have ba0 : w1.cell? ⟨w.heap.size + 1, 0, none⟩ = some (.int .i64 e.b.h) := (B1.cell 0).trans rfl; have ba1 : w1.cell? ⟨w.heap.size + 1, 1, none⟩ = some (.int .i64 e.b.r) := (B1.cell 1).trans rfl; have ba2 : w1.cell? ⟨w.heap.size + 1, 2, none⟩ = some (.int .i64 e.b.st) := (B1.cell 2).trans rfl; have ba3 : w1.cell? ⟨w.heap.size + 1, 3, none⟩ = some (.string e.b.id) := (B1.cell 3).trans rfl; have ba4 : w1.cell? ⟨w.heap.size + 1, 4, none⟩ = some (.int .i64 e.b.v) := (B1.cell 4).trans rfl; have HX1 := Lib.hid hb1)
      go_ret
      exact ⟨by rw [HE.out]; rfl, HBq.out.trans (hb1.mono HBq.out.size)⟩
    · cases gb
      all_goals
        go_wp2_with (first | (go_at_call 34; (with_reducible refine (HA _ (by exact HT3.out)).out.mono ?_); rintro r w1 ⟨rfl, hb1⟩; have E1 := QE.out.below hb1 QE.out.lt; have A1 := QA.out.below hb1 QA.out.lt; have B1 := QB.out.below hb1 QB.out.lt; have qa5 : w1.cell? ⟨w.heap.size, 5, none⟩ = some (.string e.sa) := (E1.cell 5).trans rfl; have qa11 : w1.cell? ⟨w.heap.size, 11, none⟩ = some (.string e.sb) := (E1.cell 11).trans rfl; have aa0 : w1.cell? ⟨w.heap.size + 1 + 1, 0, none⟩ = some (.int .i64 e.a.h) := (A1.cell 0).trans rfl; have aa1 : w1.cell? ⟨w.heap.size + 1 + 1, 1, none⟩ = some (.int .i64 e.a.r) := (A1.cell 1).trans rfl; have aa2 : w1.cell? ⟨w.heap.size + 1 + 1, 2, none⟩ = some (.int .i64 e.a.st) := (A1.cell 2).trans rfl; have aa3 : w1.cell? ⟨w.heap.size + 1 + 1, 3, none⟩ = some (.string e.a.id) := (A1.cell 3).trans rfl; have aa4 : w1.cell? ⟨w.heap.size + 1 + 1, 4, none⟩ = some (.int .i64 e.a.v) := (A1.cell 4).trans rfl; have ba0 : w1.cell? ⟨w.heap.size + 1, 0, none⟩ = some (.int .i64 e.b.h) := (B1.cell 0).trans rfl; have ba1 : w1.cell? ⟨w.heap.size + 1, 1, none⟩ = some (.int .i64 e.b.r) := (B1.cell 1).trans rfl; have ba2 : w1.cell? ⟨w.heap.size + 1, 2, none⟩ = some (.int .i64 e.b.st) := (B1.cell 2).trans rfl; have ba3 : w1.cell? ⟨w.heap.size + 1, 3, none⟩ = some (.string e.b.id) := (B1.cell 3).trans rfl; have ba4 : w1.cell? ⟨w.heap.size + 1, 4, none⟩ = some (.int .i64 e.b.v) := (B1.cell 4).trans rfl; have HX1 := Lib.hid hb1) | (go_at_call 34; (with_reducible refine (HB _ (by exact HT3.out.below hb1 HT3.out.pos)).out.mono ?_); rintro r w2 ⟨rfl, hb2⟩; have A2 := A1.below hb2 A1.lt; have B2 := B1.below hb2 B1.lt; have ab0 : w2.cell? ⟨w.heap.size + 1 + 1, 0, none⟩ = some (.int .i64 e.a.h) := (A2.cell 0).trans rfl; have ab1 : w2.cell? ⟨w.heap.size + 1 + 1, 1, none⟩ = some (.int .i64 e.a.r) := (A2.cell 1).trans rfl; have ab2 : w2.cell? ⟨w.heap.size + 1 + 1, 2, none⟩ = some (.int .i64 e.a.st) := (A2.cell 2).trans rfl; have ab3 : w2.cell? ⟨w.heap.size + 1 + 1, 3, none⟩ = some (.string e.a.id) := (A2.cell 3).trans rfl; have ab4 : w2.cell? ⟨w.heap.size + 1 + 1, 4, none⟩ = some (.int .i64 e.a.v) := (A2.cell 4).trans rfl; have bb0 : w2.cell? ⟨w.heap.size + 1, 0, none⟩ = some (.int .i64 e.b.h) := (B2.cell 0).trans rfl; have bb1 : w2.cell? ⟨w.heap.size + 1, 1, none⟩ = some (.int .i64 e.b.r) := (B2.cell 1).trans rfl; have bb2 : w2.cell? ⟨w.heap.size + 1, 2, none⟩ = some (.int .i64 e.b.st) := (B2.cell 2).trans rfl; have bb3 : w2.cell? ⟨w.heap.size + 1, 3, none⟩ = some (.string e.b.id) := (B2.cell 3).trans rfl; have bb4 : w2.cell? ⟨w.heap.size + 1, 4, none⟩ = some (.int .i64 e.b.v) := (B2.cell 4).trans rfl))
        all_goals
          go_ret
          refine ⟨?_, (HBq.out.trans (hb1.mono HBq.out.size)).trans (hb2.mono (Nat.le_trans HBq.out.size hb1.size))⟩
          rw [HE.out]
          first | rfl | (simp [*]; done) | (simp_all; done)

set_option maxHeartbeats 1000000 in
theorem sEvidOk_any (e : EvD) (w : World) :
    Calls Tryd.prog 9 #[.agg #[.int .i64 e.a.h, .int .i64 e.a.r, .int .i64 e.a.st, .string e.a.id, .int .i64 e.a.v, .string e.sa, .int .i64 e.b.h, .int .i64 e.b.r, .int .i64 e.b.st, .string e.b.id, .int .i64 e.b.v, .string e.sb]] w fun r w' => r = .returned (.bool (evB e)) ∧ Below w.heap.size w w' := by
  skip
  have HA : ∀ wx : World, Hid (Calls Tryd.prog 32 #[.agg #[.int .i64 e.a.h, .int .i64 e.a.r, .int .i64 e.a.st, .string e.a.id, .int .i64 e.a.v], .string e.sa] wx fun r w' => r = .returned (.bool (signedB e.a e.sa)) ∧ Below wx.heap.size wx w') := fun wx => sSigned_any e.a e.sa wx
  have HB : ∀ wx : World, Hid (Calls Tryd.prog 32 #[.agg #[.int .i64 e.b.h, .int .i64 e.b.r, .int .i64 e.b.st, .string e.b.id, .int .i64 e.b.v], .string e.sb] wx fun r w' => r = .returned (.bool (signedB e.b e.sb)) ∧ Below wx.heap.size wx w') := fun wx => sSigned_any e.b e.sb wx
  have HE : Hid (evB e = (signedB e.a e.sa && (signedB e.b e.sb && (e.a.v == e.b.v && (e.a.h == e.b.h && (e.a.r == e.b.r && (e.a.st == e.b.st && !(e.a.id.toList == e.b.id.toList)))))))) := rfl
  generalize signedB e.a e.sa = ga at *
  generalize signedB e.b e.sb = gb at *
  go_enter Tryd.func9, Tryd.ntmps9
  go_wp2_with fail
  have A0 : Blk (w.alloc (.cells #[.int .i64 e.a.h, .int .i64 e.a.r, .int .i64 e.a.st, .string e.a.id, .int .i64 e.a.v, .string e.sa, .int .i64 e.b.h, .int .i64 e.b.r, .int .i64 e.b.st, .string e.b.id, .int .i64 e.b.v, .string e.sb] 34)) w.heap.size 34 #[.int .i64 e.a.h, .int .i64 e.a.r, .int .i64 e.a.st, .string e.a.id, .int .i64 e.a.v, .string e.sa, .int .i64 e.b.h, .int .i64 e.b.r, .int .i64 e.b.st, .string e.b.id, .int .i64 e.b.v, .string e.sb] := heap_alloc_new w _
  have HB0 : Hid (Below w.heap.size w (w.alloc (.cells #[.int .i64 e.a.h, .int .i64 e.a.r, .int .i64 e.a.st, .string e.a.id, .int .i64 e.a.v, .string e.sa, .int .i64 e.b.h, .int .i64 e.b.r, .int .i64 e.b.st, .string e.b.id, .int .i64 e.b.v, .string e.sb] 34))) := (Below.refl _ _).alloc (Nat.le_refl _) _
  have QE : Hid (Blk (((w.alloc (.cells #[.int .i64 e.a.h, .int .i64 e.a.r, .int .i64 e.a.st, .string e.a.id, .int .i64 e.a.v, .string e.sa, .int .i64 e.b.h, .int .i64 e.b.r, .int .i64 e.b.st, .string e.b.id, .int .i64 e.b.v, .string e.sb] 34)).alloc (.cells #[.int .i64 e.a.h, .int .i64 e.a.r, .int .i64 e.a.st, .string e.a.id, .int .i64 e.a.v] 30)).alloc (.cells #[.int .i64 e.b.h, .int .i64 e.b.r, .int .i64 e.b.st, .string e.b.id, .int .i64 e.b.v] 30)) w.heap.size 34 #[.int .i64 e.a.h, .int .i64 e.a.r, .int .i64 e.a.st, .string e.a.id, .int .i64 e.a.v, .string e.sa, .int .i64 e.b.h, .int .i64 e.b.r, .int .i64 e.b.st, .string e.b.id, .int .i64 e.b.v, .string e.sb]) := (A0.alloc _).alloc _
  have QA : Hid (Blk (((w.alloc (.cells #[.int .i64 e.a.h, .int .i64 e.a.r, .int .i64 e.a.st, .string e.a.id, .int .i64 e.a.v, .string e.sa, .int .i64 e.b.h, .int .i64 e.b.r, .int .i64 e.b.st, .string e.b.id, .int .i64 e.b.v, .string e.sb] 34)).alloc (.cells #[.int .i64 e.a.h, .int .i64 e.a.r, .int .i64 e.a.st, .string e.a.id, .int .i64 e.a.v] 30)).alloc (.cells #[.int .i64 e.b.h, .int .i64 e.b.r, .int .i64 e.b.st, .string e.b.id, .int .i64 e.b.v] 30)) (w.heap.size + 1) 30 #[.int .i64 e.a.h, .int .i64 e.a.r, .int .i64 e.a.st, .string e.a.id, .int .i64 e.a.v]) := Blk.alloc (blk_newAt (w.alloc (.cells #[.int .i64 e.a.h, .int .i64 e.a.r, .int .i64 e.a.st, .string e.a.id, .int .i64 e.a.v, .string e.sa, .int .i64 e.b.h, .int .i64 e.b.r, .int .i64 e.b.st, .string e.b.id, .int .i64 e.b.v, .string e.sb] 34)) (w.heap.size + 1) _ _ (World.size_alloc _ _)) _
  have QB : Hid (Blk (((w.alloc (.cells #[.int .i64 e.a.h, .int .i64 e.a.r, .int .i64 e.a.st, .string e.a.id, .int .i64 e.a.v, .string e.sa, .int .i64 e.b.h, .int .i64 e.b.r, .int .i64 e.b.st, .string e.b.id, .int .i64 e.b.v, .string e.sb] 34)).alloc (.cells #[.int .i64 e.a.h, .int .i64 e.a.r, .int .i64 e.a.st, .string e.a.id, .int .i64 e.a.v] 30)).alloc (.cells #[.int .i64 e.b.h, .int .i64 e.b.r, .int .i64 e.b.st, .string e.b.id, .int .i64 e.b.v] 30)) (w.heap.size + 1 + 1) 30 #[.int .i64 e.b.h, .int .i64 e.b.r, .int .i64 e.b.st, .string e.b.id, .int .i64 e.b.v]) := blk_newAt ((w.alloc (.cells #[.int .i64 e.a.h, .int .i64 e.a.r, .int .i64 e.a.st, .string e.a.id, .int .i64 e.a.v, .string e.sa, .int .i64 e.b.h, .int .i64 e.b.r, .int .i64 e.b.st, .string e.b.id, .int .i64 e.b.v, .string e.sb] 34)).alloc (.cells #[.int .i64 e.a.h, .int .i64 e.a.r, .int .i64 e.a.st, .string e.a.id, .int .i64 e.a.v] 30)) (w.heap.size + 1 + 1) _ _ (by rw [World.size_alloc, World.size_alloc])
  have HBq : Hid (Below w.heap.size w (((w.alloc (.cells #[.int .i64 e.a.h, .int .i64 e.a.r, .int .i64 e.a.st, .string e.a.id, .int .i64 e.a.v, .string e.sa, .int .i64 e.b.h, .int .i64 e.b.r, .int .i64 e.b.st, .string e.b.id, .int .i64 e.b.v, .string e.sb] 34)).alloc (.cells #[.int .i64 e.a.h, .int .i64 e.a.r, .int .i64 e.a.st, .string e.a.id, .int .i64 e.a.v] 30)).alloc (.cells #[.int .i64 e.b.h, .int .i64 e.b.r, .int .i64 e.b.st, .string e.b.id, .int .i64 e.b.v] 30))) := (HB0.out.alloc (by rw [World.size_alloc]; omega) _).alloc (by rw [World.size_alloc, World.size_alloc]; omega) _
  generalize ((w.alloc (.cells #[.int .i64 e.a.h, .int .i64 e.a.r, .int .i64 e.a.st, .string e.a.id, .int .i64 e.a.v, .string e.sa, .int .i64 e.b.h, .int .i64 e.b.r, .int .i64 e.b.st, .string e.b.id, .int .i64 e.b.v, .string e.sb] 34)).alloc (.cells #[.int .i64 e.a.h, .int .i64 e.a.r, .int .i64 e.a.st, .string e.a.id, .int .i64 e.a.v] 30)).alloc (.cells #[.int .i64 e.b.h, .int .i64 e.b.r, .int .i64 e.b.st, .string e.b.id, .int .i64 e.b.v] 30) = wq at *
  have Z3 : Hid (w.heap.size + 2 < wq.heap.size) := by have := QB.out.lt; have := QA.out.lt; show _ < _; omega
  have q5 : wq.cell? ⟨w.heap.size, 5, none⟩ = some (.string e.sa) := (QE.out.cell 5).trans rfl
  have q11 : wq.cell? ⟨w.heap.size, 11, none⟩ = some (.string e.sb) := (QE.out.cell 11).trans rfl
  have a0 : wq.cell? ⟨w.heap.size + 1, 0, none⟩ = some (.int .i64 e.a.h) := (QA.out.cell 0).trans rfl
  have a1 : wq.cell? ⟨w.heap.size + 1, 1, none⟩ = some (.int .i64 e.a.r) := (QA.out.cell 1).trans rfl
  have a2 : wq.cell? ⟨w.heap.size + 1, 2, none⟩ = some (.int .i64 e.a.st) := (QA.out.cell 2).trans rfl
  have a3 : wq.cell? ⟨w.heap.size + 1, 3, none⟩ = some (.string e.a.id) := (QA.out.cell 3).trans rfl
  have a4 : wq.cell? ⟨w.heap.size + 1, 4, none⟩ = some (.int .i64 e.a.v) := (QA.out.cell 4).trans rfl
  have b0 : wq.cell? ⟨w.heap.size + 1 + 1, 0, none⟩ = some (.int .i64 e.b.h) := (QB.out.cell 0).trans rfl
  have b1 : wq.cell? ⟨w.heap.size + 1 + 1, 1, none⟩ = some (.int .i64 e.b.r) := (QB.out.cell 1).trans rfl
  have b2 : wq.cell? ⟨w.heap.size + 1 + 1, 2, none⟩ = some (.int .i64 e.b.st) := (QB.out.cell 2).trans rfl
  have b3 : wq.cell? ⟨w.heap.size + 1 + 1, 3, none⟩ = some (.string e.b.id) := (QB.out.cell 3).trans rfl
  have b4 : wq.cell? ⟨w.heap.size + 1 + 1, 4, none⟩ = some (.int .i64 e.b.v) := (QB.out.cell 4).trans rfl
  cases ga
  · go_wp2_with (go_at_call 32; (with_reducible refine (HA _).out.mono ?_); rintro r w1 ⟨rfl, hb1⟩; have E1 := QE.out.below hb1 QE.out.lt; have A1 := QA.out.below hb1 QA.out.lt; have B1 := QB.out.below hb1 QB.out.lt; have qa5 : w1.cell? ⟨w.heap.size, 5, none⟩ = some (.string e.sa) := (E1.cell 5).trans rfl; have qa11 : w1.cell? ⟨w.heap.size, 11, none⟩ = some (.string e.sb) := (E1.cell 11).trans rfl; have aa0 : w1.cell? ⟨w.heap.size + 1, 0, none⟩ = some (.int .i64 e.a.h) := (A1.cell 0).trans rfl; have aa1 : w1.cell? ⟨w.heap.size + 1, 1, none⟩ = some (.int .i64 e.a.r) := (A1.cell 1).trans rfl; have aa2 : w1.cell? ⟨w.heap.size + 1, 2, none⟩ = some (.int .i64 e.a.st) := (A1.cell 2).trans rfl; have aa3 : w1.cell? ⟨w.heap.size + 1, 3, none⟩ = some (.string e.a.id) := (A1.cell 3).trans rfl; have aa4 : w1.cell? ⟨w.heap.size + 1, 4, none⟩ = some (.int .i64 e.a.v) := (A1.cell 4).trans rfl; have ba0 : w1.cell? ⟨w.heap.size + 1 + 1, 0, none⟩ = some (.int .i64 e.b.h) := (B1.cell 0).trans rfl; have ba1 : w1.cell? ⟨w.heap.size + 1 + 1, 1, none⟩ = some (.int .i64 e.b.r) := (B1.cell 1).trans rfl; have ba2 : w1.cell? ⟨w.heap.size + 1 + 1, 2, none⟩ = some (.int .i64 e.b.st) := (B1.cell 2).trans rfl; have ba3 : w1.cell? ⟨w.heap.size + 1 + 1, 3, none⟩ = some (.string e.b.id) := (B1.cell 3).trans rfl; have ba4 : w1.cell? ⟨w.heap.size + 1 + 1, 4, none⟩ = some (.int .i64 e.b.v) := (B1.cell 4).trans rfl; have HX1 := Lib.hid hb1)
    go_ret
    exact ⟨by rw [HE.out]; rfl, HBq.out.trans (hb1.mono HBq.out.size)⟩
  · cases gb
    all_goals
      go_wp2_with (first | (go_at_call 32; (with_reducible refine (HA _).out.mono ?_); rintro r w1 ⟨rfl, hb1⟩; have E1 := QE.out.below hb1 QE.out.lt; have A1 := QA.out.below hb1 QA.out.lt; have B1 := QB.out.below hb1 QB.out.lt; have qa5 : w1.cell? ⟨w.heap.size, 5, none⟩ = some (.string e.sa) := (E1.cell 5).trans rfl; have qa11 : w1.cell? ⟨w.heap.size, 11, none⟩ = some (.string e.sb) := (E1.cell 11).trans rfl; have aa0 : w1.cell? ⟨w.heap.size + 1, 0, none⟩ = some (.int .i64 e.a.h) := (A1.cell 0).trans rfl; have aa1 : w1.cell? ⟨w.heap.size + 1, 1, none⟩ = some (.int .i64 e.a.r) := (A1.cell 1).trans rfl; have aa2 : w1.cell? ⟨w.heap.size + 1, 2, none⟩ = some (.int .i64 e.a.st) := (A1.cell 2).trans rfl; have aa3 : w1.cell? ⟨w.heap.size + 1, 3, none⟩ = some (.string e.a.id) := (A1.cell 3).trans rfl; have aa4 : w1.cell? ⟨w.heap.size + 1, 4, none⟩ = some (.int .i64 e.a.v) := (A1.cell 4).trans rfl; have ba0 : w1.cell? ⟨w.heap.size + 1 + 1, 0, none⟩ = some (.int .i64 e.b.h) := (B1.cell 0).trans rfl; have ba1 : w1.cell? ⟨w.heap.size + 1 + 1, 1, none⟩ = some (.int .i64 e.b.r) := (B1.cell 1).trans rfl; have ba2 : w1.cell? ⟨w.heap.size + 1 + 1, 2, none⟩ = some (.int .i64 e.b.st) := (B1.cell 2).trans rfl; have ba3 : w1.cell? ⟨w.heap.size + 1 + 1, 3, none⟩ = some (.string e.b.id) := (B1.cell 3).trans rfl; have ba4 : w1.cell? ⟨w.heap.size + 1 + 1, 4, none⟩ = some (.int .i64 e.b.v) := (B1.cell 4).trans rfl; have HX1 := Lib.hid hb1) | (go_at_call 32; (with_reducible refine (HB _).out.mono ?_); rintro r w2 ⟨rfl, hb2⟩; have A2 := A1.below hb2 A1.lt; have B2 := B1.below hb2 B1.lt; have ab0 : w2.cell? ⟨w.heap.size + 1, 0, none⟩ = some (.int .i64 e.a.h) := (A2.cell 0).trans rfl; have ab1 : w2.cell? ⟨w.heap.size + 1, 1, none⟩ = some (.int .i64 e.a.r) := (A2.cell 1).trans rfl; have ab2 : w2.cell? ⟨w.heap.size + 1, 2, none⟩ = some (.int .i64 e.a.st) := (A2.cell 2).trans rfl; have ab3 : w2.cell? ⟨w.heap.size + 1, 3, none⟩ = some (.string e.a.id) := (A2.cell 3).trans rfl; have ab4 : w2.cell? ⟨w.heap.size + 1, 4, none⟩ = some (.int .i64 e.a.v) := (A2.cell 4).trans rfl; have bb0 : w2.cell? ⟨w.heap.size + 1 + 1, 0, none⟩ = some (.int .i64 e.b.h) := (B2.cell 0).trans rfl; have bb1 : w2.cell? ⟨w.heap.size + 1 + 1, 1, none⟩ = some (.int .i64 e.b.r) := (B2.cell 1).trans rfl; have bb2 : w2.cell? ⟨w.heap.size + 1 + 1, 2, none⟩ = some (.int .i64 e.b.st) := (B2.cell 2).trans rfl; have bb3 : w2.cell? ⟨w.heap.size + 1 + 1, 3, none⟩ = some (.string e.b.id) := (B2.cell 3).trans rfl; have bb4 : w2.cell? ⟨w.heap.size + 1 + 1, 4, none⟩ = some (.int .i64 e.b.v) := (B2.cell 4).trans rfl))
      all_goals
        go_ret
        refine ⟨?_, (HBq.out.trans (hb1.mono HBq.out.size)).trans (hb2.mono (Nat.le_trans HBq.out.size hb1.size))⟩
        rw [HE.out]
        first | rfl | (simp [*]; done) | (simp_all; done)

end Go.Proofs.YteaggbbimhpolaaDoor
