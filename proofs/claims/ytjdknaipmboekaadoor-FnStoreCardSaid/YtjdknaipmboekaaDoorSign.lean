/- Short, SignAs, Digest, Signed of both sides. (printed by sign.py) -/
import Derived.Test.YtjdknaipmboekaaDoorSha6
import Derived.Test.YtjdknaipmboekaaDoorSha7
import Derived.Test.YtjdknaipmboekaaDoorB
import Derived.Test.YtjdknaipmboekaaDoorM
import Derived.Test.YtjdknaipmboekaaDoorFamVote
import Derived.WalkKit
import Derived.WalkSpells
import Derived.WalkLawsBesides
import Derived.Lib.Hide
namespace Go.Proofs.YtjdknaipmboekaaDoor
open Go.RowKit

def shortL (l : List UInt8) : List UInt8 := (shaL l).take 8
theorem shortL_len (l : List UInt8) : (shortL l).length = 8 := by unfold shortL; rw [List.length_take, shaL_len]; rfl
def signAsL (v : Int) (d : List UInt8) : List UInt8 := if inB v 1 99 = true then shortL (4 :: (be 2 v ++ d)) else []
def voteOkB (p : VoteD) : Bool := voteB p.h p.r p.st p.id p.v
def digestL (p : VoteD) : List UInt8 := if voteOkB p = true then varL p.h ++ varL p.r ++ varL p.st ++ p.id.data.toList else []
def signedB (p : VoteD) (sig : ByteArray) : Bool := voteOkB p && (sig.toList == signAsL p.v (digestL p))
theorem voteOkB_id {p : VoteD} (h : voteOkB p = true) : p.id.size ≤ 8 := by
  unfold voteOkB voteB at h
  simp only [Bool.and_eq_true] at h
  have := h.1.2
  unfold idB at this
  rw [ByteArray.toList_eq, Bool.or_eq_true] at this
  rw [size_list]
  rcases this with h | h
  · rw [List.isEmpty_iff] at h
    rw [h]; decide
  · have h := (beq_iff_eq).1 h
    rw [size_list] at h
    omega
theorem digestL_len (p : VoteD) : (digestL p).length ≤ 29 := by
  unfold digestL
  split
  · rename_i h
    have h8 := voteOkB_id h
    rw [size_list] at h8
    simp only [List.length_append]
    have := varL_len p.h; have := varL_len p.r; have := varL_len p.st
    omega
  · simp
theorem short_cut (L : List UInt8) : ((⟨L.toArray⟩ : ByteArray).extract 0 8) = ⟨(L.take 8).toArray⟩ := by
  apply ByteArray.ext
  apply Array.toList_inj.1
  rw [extract_list64]
  simp

theorem Short_any (s : ByteArray) (w : World) (hs : s.size ≤ 2097152) (ht : Tab w) :
    Calls Tryd.prog 58 #[.string s] w fun e w' => e = .returned (.string ⟨(shortL s.data.toList).toArray⟩) ∧ Below w.heap.size w w' := by
  have HS : Hid (Calls Tryd.prog 68 #[.string s] w fun e w' => e = .returned (.string ⟨(shaL s.data.toList).toArray⟩) ∧ Below w.heap.size w w') := Sha_any s w hs ht
  have h8 : 8 ≤ (shaL s.data.toList).length := by rw [shaL_len]; decide
  have HC := Lib.hid (short_cut (shaL s.data.toList))
  have HD : Hid (shortL s.data.toList = (shaL s.data.toList).take 8) := rfl
  generalize shaL s.data.toList = L at *
  go_enter Tryd.func58, Tryd.ntmps58
  go_wp2_with (go_at_call 68; (with_reducible refine HS.out.mono ?_); rintro e w1 ⟨rfl, hb⟩)
  go_ret
  exact ⟨by rw [HD.out, ← HC.out]; rfl, hb⟩



theorem sShort_any (s : ByteArray) (w : World) (hs : s.size ≤ 2097152) :
    Calls Tryd.prog 54 #[.string s] w fun e w' => e = .returned (.string ⟨(shortL s.data.toList).toArray⟩) ∧ Below w.heap.size w w' := by
  have HS : Hid (Calls Tryd.prog 65 #[.string s] w fun e w' => e = .returned (.string ⟨(shaL s.data.toList).toArray⟩) ∧ Below w.heap.size w w') := sSha_any s w hs
  have h8 : 8 ≤ (shaL s.data.toList).length := by rw [shaL_len]; decide
  have HC := Lib.hid (short_cut (shaL s.data.toList))
  have HD : Hid (shortL s.data.toList = (shaL s.data.toList).take 8) := rfl
  generalize shaL s.data.toList = L at *
  go_enter Tryd.func54, Tryd.ntmps54
  go_wp2_with (go_at_call 65; (with_reducible refine HS.out.mono ?_); rintro e w1 ⟨rfl, hb⟩)
  go_ret
  exact ⟨by rw [HD.out, ← HC.out]; rfl, hb⟩



structure EvD where
  a : VoteD
  sa : ByteArray
  b : VoteD
  sb : ByteArray
def evB (e : EvD) : Bool := signedB e.a e.sa && (signedB e.b e.sb && (e.a.v == e.b.v && (e.a.h == e.b.h && (e.a.r == e.b.r && (e.a.st == e.b.st && !(e.a.id.toList == e.b.id.toList))))))





end Go.Proofs.YtjdknaipmboekaaDoor
