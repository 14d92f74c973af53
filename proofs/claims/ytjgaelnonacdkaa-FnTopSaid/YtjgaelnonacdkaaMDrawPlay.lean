/- DrawNetPlay. (written by wip/fntop.py) -/
import Derived.WalkKit
import Derived.WalkSpells
import Derived.WalkLawsBesides
import Derived.Lib.Hide
import Derived.Test.YtjgaelnonacdkaaMDrawStory
import Derived.Test.YtjgaelnonacdkaaG05
namespace Go.Proofs.Ytjgaelnonacdkaa
open Go.RowKit

def slLen : Value → Nat
  | .slice _ n _ => n
  | _ => 0
def PlayDrew (w : World) (e : Ending) (w' : World) : Prop :=
  ∃ (la : List ActD) (Al : Option Addr) (cl : Nat), e = .returned (.slice Al la.length cl) ∧ OwnL naC 8 51 w' w.heap.size w'.heap.size Al la.length cl la ∧ la.length ≤ 1000 ∧ Below w.heap.size w w'

set_option maxRecDepth 100000 in
set_option maxHeartbeats 4000000 in
theorem DrawNetPlay_any (A : Option Addr) (n c : Nat) (l : List UInt8) (w : World) (hl : RdL octC 1 w w.heap.size A n c l) (hn : n ≤ 1048576) :
    Calls Try.prog 25 #[.slice A n c] w (PlayDrew w) := by
  obtain ⟨i0, hi, hz0, hz1, hz2⟩ := info_parts infoNetAct
  have HL := Lib.hid hl
  clear hl
  go_enter Try.func25, Try.ntmps25
  go_wp2_with fail
  refine (l1New_any A n c l _ HL.out hn).mono ?_
  rintro e w1 ⟨rfl, hu, hb⟩
  have HU1 := Lib.hid hu
  have B1 := Lib.hid hb
  have hlt1 := hu.lt
  clear hu hb
  go_wp2_with fail
  refine (l1SizeS_any A n c 110 _ hn (by decide)).mono ?_
  rintro e w' ⟨m0, rfl, hm0, hm1, rfl⟩
  go_wp2_with fail
  refine (l17Story_any w.heap.size A n c m0 _ HU1.out (by omega)).mono ?_
  rintro e w2 ⟨la, Al, cl, rfl, ho, hll, hg, hu⟩
  have hla : la.length ≤ 200 := by split at hll <;> omega
  have B2 := Lib.hid (B1.out.trans (hg.below (B := w.heap.size) (Nat.le_refl _) (by omega)))
  have HU2 := Lib.hid hu
  have hs2 := hg.size
  have HO2 := Lib.hid ho
  clear hg hu ho hll B1 HU1
  go_wp2_with fail
  refine (l1Once_any w.heap.size A n c 40 _ HU2.out (by omega)).mono ?_
  rintro e w3 ⟨v, rfl, ⟨b, rfl⟩, hg, hu⟩
  have B3 := Lib.hid (B2.out.trans (hg.below (B := w.heap.size) (Nat.le_refl _) (by omega)))
  have HU3 := Lib.hid hu
  have hs3 := hg.size
  have HO3 := Lib.hid ((HO2.out.chg hg (.inr (by omega))).wide (hi' := w3.heap.size) (Nat.le_refl _) hs3)
  clear hg hu B2 HU2 HO2
  cases b
  · go_wp2_with fail
    go_ret
    exact ⟨la, Al, cl, rfl, HO3.out.wide (by omega) (Nat.le_refl _), by omega, B3.out⟩
  · go_wp2_with fail
    refine (l1Below_any w.heap.size A n c 2 _ HU3.out (by omega)).mono ?_
    rintro e w4 ⟨v, rfl, ⟨x, rfl, hx0, hx1⟩, hg, hu⟩
    simp at hx1
    have B4 := Lib.hid (B3.out.trans (hg.below (B := w.heap.size) (Nat.le_refl _) (by omega)))
    have hs4 := hg.size
    have HO4 := Lib.hid ((HO3.out.chg hg (.inr (by omega))).wide (lo' := w1.heap.size) (hi' := w4.heap.size) (Nat.le_refl _) hs4)
    clear hg hu B3 HU3 HO3
    go_wp2_with fail
    go_loopw [4] (fun lv wr => ∃ (la : List ActD) (Al : Option Addr) (cl : Nat), lv = .slice Al la.length cl ∧ OwnL naC 8 51 wr w1.heap.size wr.heap.size Al la.length cl la ∧ la.length ≤ 500 ∧ Below w.heap.size w wr ∧ w1.heap.size ≤ wr.heap.size) (fun lv _ => 600 - slLen lv)
    case atStart => exact ⟨la, Al, cl, rfl, HO4.out, by omega, B4.out, by omega⟩
    case round =>
      obtain ⟨la, Al, cl, rfl, ho, hla2, hb, hsz⟩ := hrel
      have HO := Lib.hid ho; have HB := Lib.hid hb
      have hsw := hb.size
      clear ho hb HO4 B4
      by_cases hk : (la.length : Int) < 400 + x
      · go_wp2_with (at_builtin; refine wpList_app_rd _ rfl _ _ _ rfl w1.heap.size 51 i0 _ 8 64 Try.underlying30 hi hz0 hz1 hz2 rfl (by decide) (.slice Al la.length cl) la.length (la.flatMap naC) rfl (by exact (HO.out.owns naC_len).alloc _) _ _ 1 1 _ rfl (by exact Rd.oneA wr ⟨1, 1, 0, ⟨0, 0, 0, 0, 0⟩⟩ _ (by first | rfl | simp)) (naC_oneS _) (by unfold maxLen; omega) (by omega) (by first | (simp; done) | (simp; omega)) ?_)
        intro v2 w5 hown hg hat
        have hroA := (HO.out.below ((Below.refl _ _).alloc (Nat.le_refl _) (.cells #[.int .i64 1, .int .i64 1, .int .i64 0, .int .i64 0, .int .i64 0, .int .i64 0, .int .i64 0, .int .i64 0] 51)) (by omega)).wide (lo' := w1.heap.size) (hi' := (wr.alloc (.cells #[.int .i64 1, .int .i64 1, .int .i64 0, .int .i64 0, .int .i64 0, .int .i64 0, .int .i64 0, .int .i64 0] 51)).heap.size) (Nat.le_refl _) (by first | (simp; done) | (simp; omega))
        obtain ⟨A5, c5, rfl, ho5⟩ := row_app (x := ⟨1, 1, 0, ⟨0, 0, 0, 0, 0⟩⟩) hroA hown
        have hgc : Chg w1.heap.size (wr.alloc (.cells #[.int .i64 1, .int .i64 1, .int .i64 0, .int .i64 0, .int .i64 0, .int .i64 0, .int .i64 0, .int .i64 0] 51)).heap.size (wr.alloc (.cells #[.int .i64 1, .int .i64 1, .int .i64 0, .int .i64 0, .int .i64 0, .int .i64 0, .int .i64 0, .int .i64 0] 51)) w5 := grown_chg hg fun g e => hroA.block g e
        have HO5 := Lib.hid ho5
        have HB5 := Lib.hid ((HB.out.alloc (by omega) (.cells #[.int .i64 1, .int .i64 1, .int .i64 0, .int .i64 0, .int .i64 0, .int .i64 0, .int .i64 0, .int .i64 0] 51)).trans (hgc.below (B := w.heap.size) (by omega) (by simp; omega)))
        have hs5 : wr.heap.size + 1 ≤ w5.heap.size := by have := hgc.size; simpa using this
        clear hown hg hat hroA hgc ho5 HO HB
        go_wp2_with fail
        go_roundw
        case rel => exact ⟨la ++ [⟨1, 1, 0, ⟨0, 0, 0, 0, 0⟩⟩], _, c5, by simp, HO5.out, by simp; omega, HB5.out, by omega⟩
        case measure => simp [slLen]; omega
      · go_wp2_with fail
        go_ret
        exact ⟨la, Al, cl, rfl, HO.out.wide (by omega) (Nat.le_refl _), by omega, HB.out⟩
end Go.Proofs.Ytjgaelnonacdkaa
