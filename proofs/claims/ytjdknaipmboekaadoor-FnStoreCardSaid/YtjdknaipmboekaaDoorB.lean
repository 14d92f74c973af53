/- Contracts of the predicates on votes, guards and messages: isId, VoteOk, GuardOk, MsgOk, of the program and of the reference. -/
import Derived.Test.YtjdknaipmboekaaDoorA
import Derived.Deep.QuietTactic
import Derived.BigQuiet
import Derived.WalkKit
import Derived.WalkSpells
import Derived.WalkLawsBesides
import Derived.Lib.Hide
namespace Go.Proofs.YtjdknaipmboekaaDoor
open Go.RowKit

def idB (s : ByteArray) : Bool := s.toList.isEmpty || ((s.size : Int) == 8)
def voteB (h r st : Int) (id : ByteArray) (v : Int) : Bool := inB h 1 1000000 && inB r 0 1000 && inB st 1 2 && idB id && inB v 1 99
def guardB (h r st : Int) (id : ByteArray) : Bool := (h == 0 && (r == 0 && (st == 0 && id.toList.isEmpty))) || (inB h 1 1000000 && inB r 0 1000 && inB st 1 2 && idB id)
theorem guardB_no (h r st : Int) (id : ByteArray) (h0 : (h == 0 && (r == 0 && (st == 0 && id.toList.isEmpty))) = false) : guardB h r st id = voteB h r st id 1 := by
  simp [guardB, voteB, h0, inB]

end Go.Proofs.YtjdknaipmboekaaDoor
