/- areMsgs, l16Msgs: messages are valid and no two of them equal. -/
import Derived.Test.YtmpppmeloieamaaMsgs
import Derived.WalkKit
import Derived.WalkSpells
import Derived.WalkLawsBesides
import Derived.Lib.Hide
namespace Go.Proofs.Ytmpppmeloieamaa
open Go.RowKit

theorem RdL.take {α : Type} {f : α → List Value} {w : World} {B n c size : Nat} {A : Option Addr} {l : List α} (hf : ∀ x, (f x).length = size) (h : RdL f size w B A n c l) {k : Nat} (hk : k ≤ n) : RdL f size w B A k c (l.take k) := by
  obtain ⟨h1, h2, h3, h4, h5⟩ := h
  have hl : (l.take k).length = k := by rw [List.length_take]; omega
  refine ⟨hl, by rw [flat_len f size _ (fun x _ => hf x), hl], by omega, h4, fun hn => ?_⟩
  obtain ⟨b, off, e, hb, hc⟩ := h5 (by omega)
  refine ⟨b, off, e, hb, fun j hj => ?_⟩
  have hm : k * size ≤ n * size := Nat.mul_le_mul_right _ hk
  rw [hc j (by omega)]
  have hsp : l.flatMap f = (l.take k).flatMap f ++ (l.drop k).flatMap f := by rw [← List.flatMap_append, List.take_append_drop]
  rw [hsp, List.getElem?_append_left (by rw [flat_len f size _ (fun x _ => hf x), hl]; omega)]

def okMsg (m : NMsgD) : Bool := msgB m.k m.r m.v m.p m.f
def freshMsg (l : List NMsgD) (k : Nat) (m : NMsgD) : Bool := okMsg m && !(hasB (l.take k) m)
def msgsOk (l : List NMsgD) : Bool := allTo (freshMsg l) l l.length
theorem msgsOk_no {l : List NMsgD} {k : Nat} {m : NMsgD} (hp : l[k]? = some m) (h : freshMsg l k m = false) : msgsOk l = false := allTo_no hp h
theorem fresh_next {l : List NMsgD} {k : Nat} {m : NMsgD} (hp : l[k]? = some m) (h : allTo (freshMsg l) l k = true) (hq : freshMsg l k m = true) : allTo (freshMsg l) l (k + 1) = true := by
  rw [allTo_succ hp, h, hq]; rfl

set_option maxHeartbeats 1000000 in
theorem areMsgs_any (A : Option Addr) (n c : Nat) (most : Int) (l : List NMsgD) (w : World) (hl : RdL msgC 5 w w.heap.size A n c l) :
    Calls Try.prog 61 #[.slice A n c, .int .i64 most] w fun e w' => e = .returned (.bool (msgsOk l && decide ((l.length : Int) ≤ most))) ∧ Below w.heap.size w w' := by
  have hn := hl.le
  have HL := Lib.hid hl
  have H0 := Lib.hid hl.1
  clear hl
  go_enter Try.func61, Try.ntmps61
  go_wp2_with fail
  go_loopw [9] (fun i wr => ∃ k : Nat, k ≤ n ∧ i = .int .i64 k ∧ Below w.heap.size w wr ∧ allTo (freshMsg l) l k = true) (fun i _ => n - (intOf i).toNat)
  case atStart => exact ⟨0, by omega, rfl, Below.refl _ _, allTo_zero _ _⟩
  case round =>
    obtain ⟨k, hk, rfl, hb, hno⟩ := hrel
    have HN := Lib.hid hno; clear hno
    have hz := hb.size
    by_cases hkn : k < n
    · have HR := Lib.hid ((HL.out.below hb (Nat.le_refl _)).more hz)
      obtain ⟨b, off, p, rfl, hb1, hp, c0, c1, c2, c3, c4⟩ := msg_cells HR.out hkn
      have HT := Lib.hid (HR.out.take msgC_len hk)
      have HP := Lib.hid hp; clear hp
      have hbl : b < wr.heap.size + 1 := by omega
      have hkc : k ≤ c := Nat.le_trans hk HR.out.2.2.1
      cases g1 : msgB p.k p.r p.v p.p p.f
      · have HE : Hid (msgsOk l = false) := msgsOk_no HP.out (by simp [freshMsg, okMsg, g1])
        go_wp2_with fail
        refine wp_region_belowB (by kernel_rfl) (by kernel_rfl) (fun RB hRB => ?_)
        (have r0 : wr.heap.size < RB := by rw [hRB]; simp)
        have HRB := Lib.hid hRB
        clear hRB
        repeat (first | go_big_quiet_skip | (go_big_quiet_want; go_big_quiet_op; first | go_big_quiet_on | (apply Exists.intro; refine ⟨fun w1 hC => ?_, ?_⟩; (focus (first | rfl | (go_at_call 41; exact quiet_belowB HRB.out hC (MsgOk_any _ _ _ _ _ _)) | (simp [bcellB hC, r0]; done) | (simp [bcellB hC, r0]; rfl))); go_big_quiet_on)))
        refine wpQuiet_nil ?_
        intro w2 hb2
        have hc2 := bcellB hb2
        have HB : Hid (Below w.heap.size w w2) := (hb.alloc hz _).trans (hb2.mono (by rw [HRB.out]; simp; omega))
        clear hb2
        go_wp2
        go_ret
        exact ⟨by rw [HE.out]; rfl, HB.out⟩
      · cases g2 : hasB (l.take k) p
        · have HE : Hid (freshMsg l k p = true) := by show _ = _; simp [freshMsg, okMsg, g1, g2]
          go_wp2_with fail
          refine wp_region_belowB (by kernel_rfl) (by kernel_rfl) (fun RB hRB => ?_)
          (have r0 : wr.heap.size < RB := by rw [hRB]; simp)
          have HRB := Lib.hid hRB
          clear hRB
          repeat (first | go_big_quiet_skip | (go_big_quiet_want; go_big_quiet_op; first | go_big_quiet_on | (apply Exists.intro; refine ⟨fun w1 hC => ?_, ?_⟩; (focus (first | rfl | (go_at_call 41; exact quiet_belowB HRB.out hC (MsgOk_any _ _ _ _ _ _)) | (go_at_call 42; exact quiet_belowB HRB.out hC (ContainsMsg_any _ _ _ (l.take k) p _ (by exact ((HT.out.alloc (Nat.le_refl _) _).below hC (by rw [HRB.out]; simp)).more (by have := hC.size; simp at this; omega)))) | (simp [bcellB hC, r0]; done) | (simp [bcellB hC, r0]; rfl))); go_big_quiet_on)))
          refine wpQuiet_nil ?_
          intro w2 hb2
          have hc2 := bcellB hb2
          have HB : Hid (Below w.heap.size w w2) := (hb.alloc hz _).trans (hb2.mono (by rw [HRB.out]; simp; omega))
          clear hb2
          go_wp2
          go_roundw
          case rel => exact ⟨k + 1, by omega, by go_num, HB.out, fresh_next HP.out HN.out HE.out⟩
          case measure => simp [intOf]; omega
        · have HE : Hid (msgsOk l = false) := msgsOk_no HP.out (by simp [freshMsg, okMsg, g1, g2])
          go_wp2_with fail
          refine wp_region_belowB (by kernel_rfl) (by kernel_rfl) (fun RB hRB => ?_)
          (have r0 : wr.heap.size < RB := by rw [hRB]; simp)
          have HRB := Lib.hid hRB
          clear hRB
          repeat (first | go_big_quiet_skip | (go_big_quiet_want; go_big_quiet_op; first | go_big_quiet_on | (apply Exists.intro; refine ⟨fun w1 hC => ?_, ?_⟩; (focus (first | rfl | (go_at_call 41; exact quiet_belowB HRB.out hC (MsgOk_any _ _ _ _ _ _)) | (go_at_call 42; exact quiet_belowB HRB.out hC (ContainsMsg_any _ _ _ (l.take k) p _ (by exact ((HT.out.alloc (Nat.le_refl _) _).below hC (by rw [HRB.out]; simp)).more (by have := hC.size; simp at this; omega)))) | (simp [bcellB hC, r0]; done) | (simp [bcellB hC, r0]; rfl))); go_big_quiet_on)))
          refine wpQuiet_nil ?_
          intro w2 hb2
          have hc2 := bcellB hb2
          have HB : Hid (Below w.heap.size w w2) := (hb.alloc hz _).trans (hb2.mono (by rw [HRB.out]; simp; omega))
          clear hb2
          go_wp2
          go_ret
          exact ⟨by rw [HE.out]; rfl, HB.out⟩
    · obtain rfl : k = n := by omega
      have hA : msgsOk l = true := by unfold msgsOk; rw [H0.out]; exact HN.out
      have HE : Hid ((msgsOk l && decide ((l.length : Int) ≤ most)) = decide ((k : Int) ≤ most)) := by show _ = _; rw [hA, H0.out]; rfl
      clear hA
      go_wp2
      go_ret
      exact ⟨by rw [HE.out]; rfl, hb⟩

set_option maxHeartbeats 1000000 in
theorem l16Msgs_any (A : Option Addr) (n c : Nat) (most : Int) (l : List NMsgD) (w : World) (hl : RdL msgC 5 w w.heap.size A n c l) :
    Calls Try.prog 52 #[.slice A n c, .int .i64 most] w fun e w' => e = .returned (.bool (msgsOk l && decide ((l.length : Int) ≤ most))) ∧ Below w.heap.size w w' := by
  have hn := hl.le
  have HL := Lib.hid hl
  have H0 := Lib.hid hl.1
  clear hl
  by_cases hm : most < (n : Int)
  · have HE : Hid ((msgsOk l && decide ((l.length : Int) ≤ most)) = false) := by show _ = _; rw [H0.out]; simp; omega
    rw [HE.out]
    go_enter Try.func52, Try.ntmps52
    go_wp2
    go_ret
    exact ⟨rfl, (by repeat (first | exact Below.refl _ _ | assumption | refine Below.drew ?_ | refine belN ?_ _ | refine Below.alloc ?_ (by first | exact Nat.le_refl _ | (simp; done) | (simp; omega) | omega) _ | refine Below.setCell ?_ (by first | exact Nat.le_refl _ | (simp; done) | (simp; omega) | omega) _ | refine Below.trans ?_ (Below.mono (by assumption) (by first | exact Nat.le_refl _ | (simp; done) | (simp; omega) | omega))))⟩
  have HE : Hid ((msgsOk l && decide ((l.length : Int) ≤ most)) = msgsOk l) := by show _ = _; rw [H0.out]; simp; omega
  rw [HE.out]
  clear HE
  go_enter Try.func52, Try.ntmps52
  go_wp2_with fail
  go_loopw [5] (fun i wr => ∃ k : Nat, k ≤ n ∧ i = .int .i64 k ∧ Below w.heap.size w wr ∧ allTo (freshMsg l) l k = true) (fun i _ => n - (intOf i).toNat)
  case atStart => exact ⟨0, by omega, rfl, Below.refl _ _, allTo_zero _ _⟩
  case round =>
    obtain ⟨k, hk, rfl, hb, hno⟩ := hrel
    have HN := Lib.hid hno; clear hno
    have hz := hb.size
    by_cases hkn : k < n
    · have HR := Lib.hid ((HL.out.below hb (Nat.le_refl _)).more hz)
      have hkc : k ≤ c := Nat.le_trans hk HR.out.2.2.1
      obtain ⟨b, off, p, rfl, hb1, hp, c0, c1, c2, c3, c4⟩ := msg_cells HR.out hkn
      have HT := Lib.hid (HR.out.take msgC_len hk)
      have HP := Lib.hid hp; clear hp
      cases g1 : msgB p.k p.r p.v p.p p.f
      · have HE : Hid (msgsOk l = false) := msgsOk_no HP.out (by simp [freshMsg, okMsg, g1])
        go_wp2_with fail
        refine wp_region_below (by kernel_rfl) (by kernel_rfl) ?_
        repeat (first | go_big_quiet_skip | (go_big_quiet_want; go_big_quiet_op; first | go_big_quiet_on | (apply Exists.intro; refine ⟨fun w1 hC => ?_, ?_⟩; (focus (first | rfl | (go_at_call 26; exact quiet_below hC (sMsgOk_any _ _ _ _ _ _)) | (go_at_call 40; exact quiet_below hC (l16Has_any _ _ _ (l.take k) p _ (by exact (HT.out.below hC (Nat.le_refl _)).more hC.size))) | (simp [(bcell hC).1, hb1, c0, c1, c2, c3, c4]; done) | (simp [(bcell hC).1, hb1, c0, c1, c2, c3, c4]; rfl))); go_big_quiet_on)))
        refine wpQuiet_nil ?_
        intro w2 hb2
        obtain ⟨hc2, hf2, hz2⟩ := bcell hb2
        go_wp2
        go_ret
        exact ⟨by rw [HE.out]; rfl, hb.trans (hb2.mono hz)⟩
      · cases g2 : hasB (l.take k) p
        · have HE : Hid (freshMsg l k p = true) := by show _ = _; simp [freshMsg, okMsg, g1, g2]
          go_wp2_with fail
          refine wp_region_below (by kernel_rfl) (by kernel_rfl) ?_
          repeat (first | go_big_quiet_skip | (go_big_quiet_want; go_big_quiet_op; first | go_big_quiet_on | (apply Exists.intro; refine ⟨fun w1 hC => ?_, ?_⟩; (focus (first | rfl | (go_at_call 26; exact quiet_below hC (sMsgOk_any _ _ _ _ _ _)) | (go_at_call 40; exact quiet_below hC (l16Has_any _ _ _ (l.take k) p _ (by exact (HT.out.below hC (Nat.le_refl _)).more hC.size))) | (simp [(bcell hC).1, hb1, c0, c1, c2, c3, c4]; done) | (simp [(bcell hC).1, hb1, c0, c1, c2, c3, c4]; rfl))); go_big_quiet_on)))
          refine wpQuiet_nil ?_
          intro w2 hb2
          obtain ⟨hc2, hf2, hz2⟩ := bcell hb2
          go_wp2
          go_roundw
          case rel => exact ⟨k + 1, by omega, by go_num, hb.trans (hb2.mono hz), fresh_next HP.out HN.out HE.out⟩
          case measure => simp [intOf]; omega
        · have HE : Hid (msgsOk l = false) := msgsOk_no HP.out (by simp [freshMsg, okMsg, g1, g2])
          go_wp2_with fail
          refine wp_region_below (by kernel_rfl) (by kernel_rfl) ?_
          repeat (first | go_big_quiet_skip | (go_big_quiet_want; go_big_quiet_op; first | go_big_quiet_on | (apply Exists.intro; refine ⟨fun w1 hC => ?_, ?_⟩; (focus (first | rfl | (go_at_call 26; exact quiet_below hC (sMsgOk_any _ _ _ _ _ _)) | (go_at_call 40; exact quiet_below hC (l16Has_any _ _ _ (l.take k) p _ (by exact (HT.out.below hC (Nat.le_refl _)).more hC.size))) | (simp [(bcell hC).1, hb1, c0, c1, c2, c3, c4]; done) | (simp [(bcell hC).1, hb1, c0, c1, c2, c3, c4]; rfl))); go_big_quiet_on)))
          refine wpQuiet_nil ?_
          intro w2 hb2
          obtain ⟨hc2, hf2, hz2⟩ := bcell hb2
          go_wp2
          go_ret
          exact ⟨by rw [HE.out]; rfl, hb.trans (hb2.mono hz)⟩
    · obtain rfl : k = n := by omega
      have HE : Hid (msgsOk l = true) := by show _ = _; unfold msgsOk; rw [H0.out]; exact HN.out
      go_wp2
      go_ret
      exact ⟨by rw [HE.out]; rfl, hb⟩
end Go.Proofs.Ytmpppmeloieamaa
