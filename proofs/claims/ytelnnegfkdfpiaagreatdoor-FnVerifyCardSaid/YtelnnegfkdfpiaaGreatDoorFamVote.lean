/- The family of small functions on Vote: copies, sizes, comparisons (written by wip/fam.py). -/
import Derived.Test.YtelnnegfkdfpiaaGreatDoorB
import Derived.Test.YtelnnegfkdfpiaaGreatDoorM
import Derived.Laws.NewBlocks
import Derived.WalkKit
import Derived.WalkSpells
import Derived.WalkLawsBesides
import Derived.Lib.Hide
namespace Go.Proofs.YtelnnegfkdfpiaaGreatDoor
open Go.RowKit

structure VoteD where
  h : Int
  r : Int
  st : Int
  id : ByteArray
  v : Int
def voteC (p : VoteD) : List Value := [.int .i64 p.h, .int .i64 p.r, .int .i64 p.st, .string p.id, .int .i64 p.v]
theorem voteC_len (p : VoteD) : (voteC p).length = 5 := rfl

theorem vote_cells {w : World} {B : Nat} {A : Option Addr} {n c : Nat} {l : List VoteD} (h : RdL voteC 5 w B A n c l) {k : Nat} (hk : k < n) :
    ∃ b off p, A = some ⟨b, off, none⟩ ∧ b < B ∧ l[k]? = some p ∧ w.cell? ⟨b, off + k * 5, none⟩ = some (.int .i64 p.h) ∧ w.cell? ⟨b, off + k * 5 + 1, none⟩ = some (.int .i64 p.r) ∧ w.cell? ⟨b, off + k * 5 + 2, none⟩ = some (.int .i64 p.st) ∧ w.cell? ⟨b, off + k * 5 + 3, none⟩ = some (.string p.id) ∧ w.cell? ⟨b, off + k * 5 + 4, none⟩ = some (.int .i64 p.v) := by
  obtain ⟨b, off, p, e, hb, hp, hc⟩ := h.at_ voteC_len hk
  exact ⟨b, off, p, e, hb, hp, hc 0 (by omega), hc 1 (by omega), hc 2 (by omega), hc 3 (by omega), hc 4 (by omega)⟩



end Go.Proofs.YtelnnegfkdfpiaaGreatDoor
