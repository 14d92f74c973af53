/- NodeOk of the program and of the reference. -/
import Derived.Test.YtmpppmeloieamaaAre
import Derived.WalkKit
import Derived.WalkSpells
import Derived.WalkLawsBesides
import Derived.Lib.Hide
namespace Go.Proofs.Ytmpppmeloieamaa
open Go.RowKit

structure NodeS where
  me : Int
  round : Int
  step : Int
  lv : Int
  lr : Int
  vv : Int
  vr : Int
  polka : Int
  dec : Int
def nodeB (s : NodeS) (l : List NMsgD) : Bool :=
  inB s.me 1 4 && inB s.round (-1) 11 && inB s.step 1 3 && inB s.lv 0 20 && inB s.vv 0 20 && inB s.dec 0 20 && inB s.lr (-1) s.round && inB s.vr (-1) s.round && inB s.polka (-1) s.round &&
    ((s.lv == 0) == (s.lr == -1)) && ((s.vv == 0) == (s.vr == -1)) && (msgsOk l && decide ((l.length : Int) ≤ 90))

set_option maxHeartbeats 2000000 in
theorem sNodeOk_any (s : NodeS) (A : Option Addr) (n c : Nat) (l : List NMsgD) (w : World) (hl : RdL msgC 5 w w.heap.size A n c l) :
    Calls Try.prog 25 #[.agg #[.int .i64 s.me, .int .i64 s.round, .int .i64 s.step, .int .i64 s.lv, .int .i64 s.lr, .int .i64 s.vv, .int .i64 s.vr, .int .i64 s.polka, .int .i64 s.dec, .slice A n c]] w fun e w' => e = .returned (.bool (nodeB s l)) ∧ Below w.heap.size w w' := by
  obtain ⟨me, round, step, lv, lr, vv, vr, polka, dec⟩ := s
  have HL := Lib.hid hl
  clear hl
  go_enter Try.func25, Try.ntmps25
  go_wp2_with (first | (go_at_call 51; (with_reducible refine (l1In_any _ _ _ _).mono ?_); rintro e w' ⟨rfl, rfl⟩) | (go_at_call 52; (with_reducible refine (l16Msgs_any _ _ _ _ l _ (by exact (HL.out.alloc (Nat.le_refl _) _).more (by simp))).mono ?_); rintro e w1 ⟨rfl, hb⟩))
  all_goals go_ret
  all_goals refine ⟨?_, (by repeat (first | exact Below.refl _ _ | assumption | refine Below.drew ?_ | refine belN ?_ _ | refine Below.alloc ?_ (by first | exact Nat.le_refl _ | (simp; done) | (simp; omega) | omega) _ | refine Below.setCell ?_ (by first | exact Nat.le_refl _ | (simp; done) | (simp; omega) | omega) _ | refine Below.trans ?_ (Below.mono (by assumption) (by first | exact Nat.le_refl _ | (simp; done) | (simp; omega) | omega))))⟩
  all_goals simp [nodeB, *]
end Go.Proofs.Ytmpppmeloieamaa
