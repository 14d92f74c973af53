/- Peers: the family of small functions on peers and tables. -/
import Derived.Test.YtpfppkjikkihfaaM
import Derived.WalkKit
import Derived.WalkSpells
import Derived.WalkLawsBesides
import Derived.Lib.Hide
namespace Go.Proofs.Ytpfppkjikkihfaa
open Go.RowKit

structure PeerD where
  id : Int
  pin : Bool
  til : Int
  bans : Int
def peerC (p : PeerD) : List Value := [.int .i64 p.id, .bool p.pin, .int .i64 p.til, .int .i64 p.bans]
theorem peerC_len (p : PeerD) : (peerC p).length = 4 := rfl

theorem atClosure_any (p : PeerD) (b : Nat) (x : Int) (w : World) (hx : w.cell? ⟨b, 0, none⟩ = some (.int .i64 x)) (hlt : b < w.heap.size) :
    Calls Try.prog 78 #[.agg #[.int .i64 p.id, .bool p.pin, .int .i64 p.til, .int .i64 p.bans], .pointer (some ⟨b, 0, none⟩)] w fun e w' => e = .returned (.bool (p.id == x)) ∧ Below w.heap.size w w' := by
  go_enter Try.func78, Try.ntmps78
  go_wp2
  go_ret
  exact ⟨rfl, (by repeat (first | exact Below.refl _ _ | assumption | refine Below.drew ?_ | refine belN ?_ _ | refine Below.alloc ?_ (by first | exact Nat.le_refl _ | (simp; done) | (simp; omega) | omega) _ | refine Below.setCell ?_ (by first | exact Nat.le_refl _ | (simp; done) | (simp; omega) | omega) _ | refine Below.trans ?_ (Below.mono (by assumption) (by first | exact Nat.le_refl _ | (simp; done) | (simp; omega) | omega))))⟩

theorem peer_cells {w : World} {B : Nat} {A : Option Addr} {n c : Nat} {l : List PeerD} (h : RdL peerC 4 w B A n c l) {k : Nat} (hk : k < n) :
    ∃ b off p, A = some ⟨b, off, none⟩ ∧ b < B ∧ l[k]? = some p ∧ w.cell? ⟨b, off + k * 4, none⟩ = some (.int .i64 p.id) ∧ w.cell? ⟨b, off + k * 4 + 1, none⟩ = some (.bool p.pin) ∧ w.cell? ⟨b, off + k * 4 + 2, none⟩ = some (.int .i64 p.til) ∧ w.cell? ⟨b, off + k * 4 + 3, none⟩ = some (.int .i64 p.bans) := by
  obtain ⟨b, off, p, e, hb, hp, hc⟩ := h.at_ peerC_len hk
  exact ⟨b, off, p, e, hb, hp, hc 0 (by omega), hc 1 (by omega), hc 2 (by omega), hc 3 (by omega)⟩


def firstAt (l : List PeerD) (x : Int) : Int := firstBy (fun p => p.id == x) l

set_option maxHeartbeats 400000 in
theorem IndexFunc_any (A : Option Addr) (n c : Nat) (l : List PeerD) (b0 : Nat) (x : Int) (w : World) (hl : RdL peerC 4 w w.heap.size A n c l) (hx : w.cell? ⟨b0, 0, none⟩ = some (.int .i64 x)) (hlt : b0 < w.heap.size) :
    Calls Try.prog 77 #[.slice A n c, .func (Fn.func 78) #[] #[.pointer (some ⟨b0, 0, none⟩)]] w fun e w' => e = .returned (.int .i64 (firstAt l x)) ∧ Below w.heap.size w w' := by
  have hn := hl.le
  have HL := Lib.hid hl
  go_enter Try.func77, Try.ntmps77
  go_wp2_with fail
  go_loopw [8] (fun i wr => ∃ k : Nat, k ≤ n ∧ i = .int .i64 k ∧ Below w.heap.size w wr ∧ noneTo (fun p : PeerD => p.id == x) l k = true) (fun i _ => n - (intOf i).toNat)
  case atStart => exact ⟨0, by omega, rfl, Below.refl _ _, noneTo_zero _ _⟩
  case round =>
    obtain ⟨k, hk, rfl, hb, hno⟩ := hrel
    have HN := Lib.hid hno; clear hno
    by_cases hkn : k < n
    · obtain ⟨b, off, p, rfl, hb1, hp, c0, c1, c2, c3⟩ := peer_cells (HL.out.below hb (Nat.le_refl _)) hkn
      have HP := Lib.hid hp; clear hp
      have hx' : wr.cell? ⟨b0, 0, none⟩ = some (.int .i64 x) := by rw [hb.cell (p := ⟨b0, 0, none⟩) hlt]; exact hx
      have hz := hb.size
      cases ht : (p.id == x)
      all_goals
        go_wp2_with (go_at_call 78; (with_reducible refine (atClosure_any _ _ _ _ hx' (by omega)).mono ?_); rintro e w1 ⟨rfl, hb2⟩)
      · go_roundw
        case rel => exact ⟨k + 1, by omega, by go_num, hb.trans (hb2.mono hz), noneTo_succ HP.out HN.out ht⟩
        case measure => simp [intOf]; omega
      · go_ret
        exact ⟨by rw [show firstAt l x = k from firstBy_hit HP.out HN.out ht]; rfl, hb.trans (hb2.mono hz)⟩
    · obtain rfl : k = n := by omega
      go_wp2
      go_ret
      exact ⟨by rw [show firstAt l x = -1 from firstBy_miss (by rw [HL.out.1]; exact HN.out)]; rfl, hb⟩

theorem at_any (A : Option Addr) (n c : Nat) (turn : Int) (l : List PeerD) (x : Int) (w : World) (hl : RdL peerC 4 w w.heap.size A n c l) :
    Calls Try.prog 62 #[.agg #[.slice A n c, .int .i64 turn], .int .i64 x] w fun e w' => e = .returned (.int .i64 (firstAt l x)) ∧ Below w.heap.size w w' := by
  have HL := Lib.hid hl
  clear hl
  go_enter Try.func62, Try.ntmps62
  go_wp2_with fail
  (with_reducible refine (IndexFunc_any A n c l (w.heap.size + 1) x _ (((HL.out.alloc (Nat.le_refl _) _).alloc (by simp) _).more (by simp; omega)) (by simp) (by simp)).mono ?_)
  rintro e w1 ⟨rfl, hb⟩
  go_wp2_with fail
  go_ret
  exact ⟨rfl, (by repeat (first | exact Below.refl _ _ | assumption | refine Below.drew ?_ | refine belN ?_ _ | refine Below.alloc ?_ (by first | exact Nat.le_refl _ | (simp; done) | (simp; omega) | omega) _ | refine Below.setCell ?_ (by first | exact Nat.le_refl _ | (simp; done) | (simp; omega) | omega) _ | refine Below.trans ?_ (Below.mono (by assumption) (by first | exact Nat.le_refl _ | (simp; done) | (simp; omega) | omega))))⟩
end Go.Proofs.Ytpfppkjikkihfaa
