/- Msgs, Are: joined into one text. -/
import Derived.WalkKit
import Derived.WalkSpells
import Derived.WalkLawsBesides
import Derived.Lib.Hide
import Derived.Test.YtjgaelnonacdkaaFamNMsg
import Derived.Test.YtjgaelnonacdkaaC
namespace Go.Proofs.Ytjgaelnonacdkaa
open Go.RowKit

def msgEq (a b : NMsgD) : Bool := a.k == b.k && (a.r == b.r && (a.v == b.v && (a.p == b.p && a.f == b.f)))
theorem msgEq_comm (a b : NMsgD) : msgEq a b = msgEq b a := by
  unfold msgEq
  have h : ∀ x y : Int, (x == y) = (y == x) := fun x y => by
    by_cases hxy : x = y
    · subst hxy; rfl
    · rw [beq_eq_false_iff_ne.2 hxy, beq_eq_false_iff_ne.2 (fun e => hxy e.symm)]
  rw [h a.k, h a.r, h a.v, h a.p, h a.f]
theorem msgEq_iff (a b : NMsgD) : msgEq a b = true ↔ a = b := by
  cases a; cases b; simp [msgEq]
theorem belT {w : World} {o : Obj} {wr : World} (h : Below (w.heap.size + 1) (w.alloc o) wr) : Below w.heap.size w wr := ((Below.refl _ _).alloc (Nat.le_refl _) _).trans (h.mono (by omega))
theorem ifs5 {α : Type} {c1 c2 c3 c4 c5 : Prop} [Decidable c1] [Decidable c2] [Decidable c3] [Decidable c4] [Decidable c5] (x y : α) :
    (if c1 then if c2 then if c3 then if c4 then if c5 then x else y else y else y else y else y) = if c1 ∧ c2 ∧ c3 ∧ c4 ∧ c5 then x else y := by
  by_cases h1 : c1 <;> by_cases h2 : c2 <;> by_cases h3 : c3 <;> by_cases h4 : c4 <;> by_cases h5 : c5 <;> simp [h1, h2, h3, h4, h5]
def hasB (l : List NMsgD) (m : NMsgD) : Bool := l.any (msgEq m)
theorem noneTo_has {l : List NMsgD} {m : NMsgD} (h : noneTo (msgEq m) l l.length = true) : hasB l m = false := by
  unfold noneTo at h; unfold hasB
  rw [List.take_length] at h
  rw [Bool.eq_false_iff]; intro h2
  rw [List.any_eq_true] at h2
  obtain ⟨x, hx, hm⟩ := h2
  rw [List.all_eq_true] at h
  have := h x hx
  simp [hm] at this
theorem has_at {l : List NMsgD} {m x : NMsgD} {k : Nat} (hk : l[k]? = some x) (hx : msgEq m x = true) : hasB l m = true := by
  unfold hasB; rw [List.any_eq_true]; exact ⟨x, List.mem_of_getElem? hk, hx⟩
theorem firstBy_has (l : List NMsgD) (m : NMsgD) : decide (0 ≤ firstBy (msgEq m) l) = hasB l m := by
  cases h : hasB l m
  · have e : firstBy (msgEq m) l = -1 := firstBy_miss (by
      unfold noneTo; rw [List.take_length, List.all_eq_true]; intro x hx
      unfold hasB at h; rw [Bool.eq_false_iff] at h
      cases hm : msgEq m x
      · rfl
      · exact absurd (List.any_eq_true.2 ⟨x, hx, hm⟩) h)
    rw [e]; rfl
  · unfold hasB at h; rw [List.any_eq_true] at h
    obtain ⟨x, hx, hm⟩ := h
    have : (l.findIdx? (msgEq m)).isSome = true := by rw [List.findIdx?_isSome]; exact List.any_eq_true.2 ⟨x, hx, hm⟩
    unfold firstBy
    cases hf : l.findIdx? (msgEq m) with
    | none => rw [hf] at this; cases this
    | some i => simp

set_option maxHeartbeats 400000 in
theorem IndexMsg_any (A : Option Addr) (n c : Nat) (l : List NMsgD) (m : NMsgD) (w : World) (hl : RdL msgC 5 w w.heap.size A n c l) :
    Calls Try.prog 100 #[.slice A n c, .agg #[.int .i64 m.k, .int .i64 m.r, .int .i64 m.v, .int .i64 m.p, .int .i64 m.f]] w fun e w' => e = .returned (.int .i64 (firstBy (msgEq m) l)) ∧ Below w.heap.size w w' := by
  have hn := hl.le
  have HL := Lib.hid (hl.alloc (Nat.le_refl _) (Obj.cells #[.int .i64 m.k, .int .i64 m.r, .int .i64 m.v, .int .i64 m.p, .int .i64 m.f] 49))
  have H0 := Lib.hid hl.1
  clear hl
  go_enter Try.func100, Try.ntmps100
  go_wp2_with fail
  go_loopw [8] (fun i wr => ∃ k : Nat, k ≤ n ∧ i = .int .i64 k ∧ noneTo (msgEq m) l k = true ∧ Below (w.heap.size + 1) (w.alloc (Obj.cells #[.int .i64 m.k, .int .i64 m.r, .int .i64 m.v, .int .i64 m.p, .int .i64 m.f] 49)) wr) (fun i _ => n - (intOf i).toNat)
  case atStart => exact ⟨0, by omega, rfl, noneTo_zero _ _, Below.refl _ _⟩
  case round =>
    obtain ⟨k, hk, rfl, hno, hb⟩ := hrel
    have t0 : wr.cell? ⟨w.heap.size, 0, none⟩ = some (.int .i64 m.k) := by rw [hb.cell (p := ⟨w.heap.size, 0, none⟩) (by simp)]; simp
    have t1 : wr.cell? ⟨w.heap.size, 1, none⟩ = some (.int .i64 m.r) := by rw [hb.cell (p := ⟨w.heap.size, 1, none⟩) (by simp)]; simp
    have t2 : wr.cell? ⟨w.heap.size, 2, none⟩ = some (.int .i64 m.v) := by rw [hb.cell (p := ⟨w.heap.size, 2, none⟩) (by simp)]; simp
    have t3 : wr.cell? ⟨w.heap.size, 3, none⟩ = some (.int .i64 m.p) := by rw [hb.cell (p := ⟨w.heap.size, 3, none⟩) (by simp)]; simp
    have t4 : wr.cell? ⟨w.heap.size, 4, none⟩ = some (.int .i64 m.f) := by rw [hb.cell (p := ⟨w.heap.size, 4, none⟩) (by simp)]; simp
    have HN := Lib.hid hno; clear hno
    by_cases hkn : k < n
    · obtain ⟨b, off, p, rfl, hb1, hp, c0, c1, c2, c3, c4⟩ := msg_cells (HL.out.below hb (by omega)) hkn
      have HP := Lib.hid hp; clear hp
      by_cases ht : (m.k = p.k ∧ m.r = p.r ∧ m.v = p.v ∧ m.p = p.p ∧ m.f = p.f)
      · have HT2 := Lib.hid ht
        have HT : Hid (msgEq m p = true) := by simp only [msgEq, Bool.and_eq_true, beq_iff_eq]; exact ht
        clear ht
        go_wp2_with fail
        go_quiet ((rw [ifs5, if_pos HT2.out]; exact ⟨rfl, rfl⟩))
        go_wp2
        go_ret
        exact ⟨by rw [show firstBy (msgEq m) l = k from firstBy_hit HP.out HN.out HT.out]; rfl, belN (belT hb) _⟩
      · have HT2 := Lib.hid ht
        have HT : Hid (msgEq m p = false) := by rw [Bool.eq_false_iff]; intro h; apply ht; simpa [msgEq] using h
        clear ht
        go_wp2_with fail
        go_quiet ((rw [ifs5, if_neg HT2.out]; exact ⟨rfl, rfl⟩))
        go_wp2
        go_roundw
        case rel => exact ⟨k + 1, by omega, by go_num, noneTo_succ HP.out HN.out HT.out, belN hb _⟩
        case measure => simp [intOf]; omega
    · obtain rfl : k = n := by omega
      go_wp2
      go_ret
      exact ⟨by rw [show firstBy (msgEq m) l = -1 from firstBy_miss (by rw [H0.out]; exact HN.out)]; rfl, belT hb⟩
theorem ContainsMsg_any (A : Option Addr) (n c : Nat) (l : List NMsgD) (m : NMsgD) (w : World) (hl : RdL msgC 5 w w.heap.size A n c l) :
    Calls Try.prog 74 #[.slice A n c, .agg #[.int .i64 m.k, .int .i64 m.r, .int .i64 m.v, .int .i64 m.p, .int .i64 m.f]] w fun e w' => e = .returned (.bool (hasB l m)) ∧ Below w.heap.size w w' := by
  have HL := Lib.hid hl
  have HF := Lib.hid (firstBy_has l m)
  clear hl
  go_enter Try.func74, Try.ntmps74
  go_wp2_with (go_at_call 100; (with_reducible refine (IndexMsg_any _ _ _ l m _ (by exact (HL.out.alloc (Nat.le_refl _) _).more (by simp))).mono ?_); rintro e w1 ⟨rfl, hb⟩)
  go_ret
  exact ⟨by rw [← HF.out]; rfl, (by repeat (first | exact Below.refl _ _ | assumption | refine Below.drew ?_ | refine belN ?_ _ | refine Below.alloc ?_ (by first | exact Nat.le_refl _ | (simp; done) | (simp; omega) | omega) _ | refine Below.setCell ?_ (by first | exact Nat.le_refl _ | (simp; done) | (simp; omega) | omega) _ | refine Below.trans ?_ (Below.mono (by assumption) (by first | exact Nat.le_refl _ | (simp; done) | (simp; omega) | omega))))⟩
set_option maxHeartbeats 400000 in
theorem l16Has_any (A : Option Addr) (n c : Nat) (l : List NMsgD) (m : NMsgD) (w : World) (hl : RdL msgC 5 w w.heap.size A n c l) :
    Calls Try.prog 56 #[.slice A n c, .agg #[.int .i64 m.k, .int .i64 m.r, .int .i64 m.v, .int .i64 m.p, .int .i64 m.f]] w fun e w' => e = .returned (.bool (hasB l m)) ∧ Below w.heap.size w w' := by
  have hn := hl.le
  have HL := Lib.hid (hl.alloc (Nat.le_refl _) (Obj.cells #[.int .i64 m.k, .int .i64 m.r, .int .i64 m.v, .int .i64 m.p, .int .i64 m.f] 49))
  have H0 := Lib.hid hl.1
  clear hl
  go_enter Try.func56, Try.ntmps56
  go_wp2_with fail
  go_loopw [5] (fun i wr => ∃ k : Nat, k ≤ n ∧ i = .int .i64 k ∧ noneTo (msgEq m) l k = true ∧ Below (w.heap.size + 1) (w.alloc (Obj.cells #[.int .i64 m.k, .int .i64 m.r, .int .i64 m.v, .int .i64 m.p, .int .i64 m.f] 49)) wr) (fun i _ => n - (intOf i).toNat)
  case atStart => exact ⟨0, by omega, rfl, noneTo_zero _ _, Below.refl _ _⟩
  case round =>
    obtain ⟨k, hk, rfl, hno, hb⟩ := hrel
    have t0 : wr.cell? ⟨w.heap.size, 0, none⟩ = some (.int .i64 m.k) := by rw [hb.cell (p := ⟨w.heap.size, 0, none⟩) (by simp)]; simp
    have t1 : wr.cell? ⟨w.heap.size, 1, none⟩ = some (.int .i64 m.r) := by rw [hb.cell (p := ⟨w.heap.size, 1, none⟩) (by simp)]; simp
    have t2 : wr.cell? ⟨w.heap.size, 2, none⟩ = some (.int .i64 m.v) := by rw [hb.cell (p := ⟨w.heap.size, 2, none⟩) (by simp)]; simp
    have t3 : wr.cell? ⟨w.heap.size, 3, none⟩ = some (.int .i64 m.p) := by rw [hb.cell (p := ⟨w.heap.size, 3, none⟩) (by simp)]; simp
    have t4 : wr.cell? ⟨w.heap.size, 4, none⟩ = some (.int .i64 m.f) := by rw [hb.cell (p := ⟨w.heap.size, 4, none⟩) (by simp)]; simp
    have HN := Lib.hid hno; clear hno
    by_cases hkn : k < n
    · obtain ⟨b, off, p, rfl, hb1, hp, c0, c1, c2, c3, c4⟩ := msg_cells (HL.out.below hb (by omega)) hkn
      have HP := Lib.hid hp; clear hp
      by_cases ht : (p.k = m.k ∧ p.r = m.r ∧ p.v = m.v ∧ p.p = m.p ∧ p.f = m.f)
      · have HT2 := Lib.hid ht
        have HT : Hid (msgEq m p = true) := by rw [msgEq_comm]; simp only [msgEq, Bool.and_eq_true, beq_iff_eq]; exact ht
        clear ht
        go_wp2_with fail
        go_quiet ((rw [ifs5, if_pos HT2.out]; exact ⟨rfl, rfl⟩))
        go_wp2
        go_ret
        exact ⟨by rw [show hasB l m = true from has_at HP.out HT.out]; rfl, belN (belT hb) _⟩
      · have HT2 := Lib.hid ht
        have HT : Hid (msgEq m p = false) := by rw [Bool.eq_false_iff]; intro h; apply ht; rw [msgEq_comm] at h; simpa [msgEq] using h
        clear ht
        go_wp2_with fail
        go_quiet ((rw [ifs5, if_neg HT2.out]; exact ⟨rfl, rfl⟩))
        go_wp2
        go_roundw
        case rel => exact ⟨k + 1, by omega, by go_num, noneTo_succ HP.out HN.out HT.out, belN hb _⟩
        case measure => simp [intOf]; omega
    · obtain rfl : k = n := by omega
      go_wp2
      go_ret
      exact ⟨by rw [show hasB l m = false from noneTo_has (by rw [H0.out]; exact HN.out)]; rfl, belT hb⟩
end Go.Proofs.Ytjgaelnonacdkaa
namespace Go.Proofs.Ytjgaelnonacdkaa
open Go.RowKit

theorem RdL.take {α : Type} {f : α → List Value} {w : World} {B n c size : Nat} {A : Option Addr} {l : List α} (hf : ∀ x, (f x).length = size) (h : RdL f size w B A n c l) {k : Nat} (hk : k ≤ n) : RdL f size w B A k c (l.take k) := by
  obtain ⟨h1, h2, h3, h4, h5⟩ := h
  have hl : (l.take k).length = k := by rw [List.length_take]; omega
  refine ⟨hl, by rw [flat_len f size _ (fun x _ => hf x), hl], by omega, h4, fun hn => ?_⟩
  obtain ⟨b, off, e, hb, hc⟩ := h5 (by omega)
  refine ⟨b, off, e, hb, fun j hj => ?_⟩
  have hm : k * size ≤ n * size := Nat.mul_le_mul_right _ hk
  rw [hc j (by omega)]
  have hsp : l.flatMap f = (l.take k).flatMap f ++ (l.drop k).flatMap f := by rw [← List.flatMap_append, List.take_append_drop]
  rw [hsp, List.getElem?_append_left (by rw [flat_len f size _ (fun x _ => hf x), hl]; omega)]

def okMsg (m : NMsgD) : Bool := msgB m.k m.r m.v m.p m.f
def freshMsg (l : List NMsgD) (k : Nat) (m : NMsgD) : Bool := okMsg m && !(hasB (l.take k) m)
def msgsOk (l : List NMsgD) : Bool := allTo (freshMsg l) l l.length
theorem msgsOk_no {l : List NMsgD} {k : Nat} {m : NMsgD} (hp : l[k]? = some m) (h : freshMsg l k m = false) : msgsOk l = false := allTo_no hp h
theorem fresh_next {l : List NMsgD} {k : Nat} {m : NMsgD} (hp : l[k]? = some m) (h : allTo (freshMsg l) l k = true) (hq : freshMsg l k m = true) : allTo (freshMsg l) l (k + 1) = true := by
  rw [allTo_succ hp, h, hq]; rfl

set_option maxHeartbeats 1000000 in
theorem areMsgs_any (A : Option Addr) (n c : Nat) (most : Int) (l : List NMsgD) (w : World) (hl : RdL msgC 5 w w.heap.size A n c l) :
    Calls Try.prog 84 #[.slice A n c, .int .i64 most] w fun e w' => e = .returned (.bool (msgsOk l && decide ((l.length : Int) ≤ most))) ∧ Below w.heap.size w w' := by
  have hn := hl.le
  have HL := Lib.hid hl
  have H0 := Lib.hid hl.1
  clear hl
  go_enter Try.func84, Try.ntmps84
  go_wp2_with fail
  go_loopw [9] (fun i wr => ∃ k : Nat, k ≤ n ∧ i = .int .i64 k ∧ Below w.heap.size w wr ∧ allTo (freshMsg l) l k = true) (fun i _ => n - (intOf i).toNat)
  case atStart => exact ⟨0, by omega, rfl, Below.refl _ _, allTo_zero _ _⟩
  case round =>
    obtain ⟨k, hk, rfl, hb, hno⟩ := hrel
    have HN := Lib.hid hno; clear hno
    have hz := hb.size
    by_cases hkn : k < n
    · have HR := Lib.hid ((HL.out.below hb (Nat.le_refl _)).more hz)
      obtain ⟨b, off, p, rfl, hb1, hp, c0, c1, c2, c3, c4⟩ := msg_cells HR.out hkn
      have HT := Lib.hid (HR.out.take msgC_len hk)
      have HP := Lib.hid hp; clear hp
      have hbl : b < wr.heap.size + 1 := by omega
      have hkc : k ≤ c := Nat.le_trans hk HR.out.2.2.1
      cases g1 : msgB p.k p.r p.v p.p p.f
      · have HE : Hid (msgsOk l = false) := msgsOk_no HP.out (by simp [freshMsg, okMsg, g1])
        go_wp2_with fail
        refine wp_region_belowB (by kernel_rfl) (by kernel_rfl) (fun RB hRB => ?_)
        (have r0 : wr.heap.size < RB := by rw [hRB]; simp)
        have HRB := Lib.hid hRB
        clear hRB
        repeat (first | go_big_quiet_skip | (go_big_quiet_want; go_big_quiet_op; first | go_big_quiet_on | (apply Exists.intro; refine ⟨fun w1 hC => ?_, ?_⟩; (focus (first | rfl | (go_at_call 73; exact quiet_belowB HRB.out hC (MsgOk_any _ _ _ _ _ _)) | (simp [bcellB hC, r0]; done) | (simp [bcellB hC, r0]; rfl))); go_big_quiet_on)))
        refine wpQuiet_nil ?_
        intro w2 hb2
        have hc2 := bcellB hb2
        have HB : Hid (Below w.heap.size w w2) := (hb.alloc hz _).trans (hb2.mono (by rw [HRB.out]; simp; omega))
        clear hb2
        go_wp2
        go_ret
        exact ⟨by rw [HE.out]; rfl, HB.out⟩
      · cases g2 : hasB (l.take k) p
        · have HE : Hid (freshMsg l k p = true) := by show _ = _; simp [freshMsg, okMsg, g1, g2]
          go_wp2_with fail
          refine wp_region_belowB (by kernel_rfl) (by kernel_rfl) (fun RB hRB => ?_)
          (have r0 : wr.heap.size < RB := by rw [hRB]; simp)
          have HRB := Lib.hid hRB
          clear hRB
          repeat (first | go_big_quiet_skip | (go_big_quiet_want; go_big_quiet_op; first | go_big_quiet_on | (apply Exists.intro; refine ⟨fun w1 hC => ?_, ?_⟩; (focus (first | rfl | (go_at_call 73; exact quiet_belowB HRB.out hC (MsgOk_any _ _ _ _ _ _)) | (go_at_call 74; exact quiet_belowB HRB.out hC (ContainsMsg_any _ _ _ (l.take k) p _ (by exact ((HT.out.alloc (Nat.le_refl _) _).below hC (by rw [HRB.out]; simp)).more (by have := hC.size; simp at this; omega)))) | (simp [bcellB hC, r0]; done) | (simp [bcellB hC, r0]; rfl))); go_big_quiet_on)))
          refine wpQuiet_nil ?_
          intro w2 hb2
          have hc2 := bcellB hb2
          have HB : Hid (Below w.heap.size w w2) := (hb.alloc hz _).trans (hb2.mono (by rw [HRB.out]; simp; omega))
          clear hb2
          go_wp2
          go_roundw
          case rel => exact ⟨k + 1, by omega, by go_num, HB.out, fresh_next HP.out HN.out HE.out⟩
          case measure => simp [intOf]; omega
        · have HE : Hid (msgsOk l = false) := msgsOk_no HP.out (by simp [freshMsg, okMsg, g1, g2])
          go_wp2_with fail
          refine wp_region_belowB (by kernel_rfl) (by kernel_rfl) (fun RB hRB => ?_)
          (have r0 : wr.heap.size < RB := by rw [hRB]; simp)
          have HRB := Lib.hid hRB
          clear hRB
          repeat (first | go_big_quiet_skip | (go_big_quiet_want; go_big_quiet_op; first | go_big_quiet_on | (apply Exists.intro; refine ⟨fun w1 hC => ?_, ?_⟩; (focus (first | rfl | (go_at_call 73; exact quiet_belowB HRB.out hC (MsgOk_any _ _ _ _ _ _)) | (go_at_call 74; exact quiet_belowB HRB.out hC (ContainsMsg_any _ _ _ (l.take k) p _ (by exact ((HT.out.alloc (Nat.le_refl _) _).below hC (by rw [HRB.out]; simp)).more (by have := hC.size; simp at this; omega)))) | (simp [bcellB hC, r0]; done) | (simp [bcellB hC, r0]; rfl))); go_big_quiet_on)))
          refine wpQuiet_nil ?_
          intro w2 hb2
          have hc2 := bcellB hb2
          have HB : Hid (Below w.heap.size w w2) := (hb.alloc hz _).trans (hb2.mono (by rw [HRB.out]; simp; omega))
          clear hb2
          go_wp2
          go_ret
          exact ⟨by rw [HE.out]; rfl, HB.out⟩
    · obtain rfl : k = n := by omega
      have hA : msgsOk l = true := by unfold msgsOk; rw [H0.out]; exact HN.out
      have HE : Hid ((msgsOk l && decide ((l.length : Int) ≤ most)) = decide ((k : Int) ≤ most)) := by show _ = _; rw [hA, H0.out]; rfl
      clear hA
      go_wp2
      go_ret
      exact ⟨by rw [HE.out]; rfl, hb⟩

set_option maxHeartbeats 1000000 in
theorem l16Msgs_any (A : Option Addr) (n c : Nat) (most : Int) (l : List NMsgD) (w : World) (hl : RdL msgC 5 w w.heap.size A n c l) :
    Calls Try.prog 54 #[.slice A n c, .int .i64 most] w fun e w' => e = .returned (.bool (msgsOk l && decide ((l.length : Int) ≤ most))) ∧ Below w.heap.size w w' := by
  have hn := hl.le
  have HL := Lib.hid hl
  have H0 := Lib.hid hl.1
  clear hl
  by_cases hm : most < (n : Int)
  · have HE : Hid ((msgsOk l && decide ((l.length : Int) ≤ most)) = false) := by show _ = _; rw [H0.out]; simp; omega
    rw [HE.out]
    go_enter Try.func54, Try.ntmps54
    go_wp2
    go_ret
    exact ⟨rfl, (by repeat (first | exact Below.refl _ _ | assumption | refine Below.drew ?_ | refine belN ?_ _ | refine Below.alloc ?_ (by first | exact Nat.le_refl _ | (simp; done) | (simp; omega) | omega) _ | refine Below.setCell ?_ (by first | exact Nat.le_refl _ | (simp; done) | (simp; omega) | omega) _ | refine Below.trans ?_ (Below.mono (by assumption) (by first | exact Nat.le_refl _ | (simp; done) | (simp; omega) | omega))))⟩
  have HE : Hid ((msgsOk l && decide ((l.length : Int) ≤ most)) = msgsOk l) := by show _ = _; rw [H0.out]; simp; omega
  rw [HE.out]
  clear HE
  go_enter Try.func54, Try.ntmps54
  go_wp2_with fail
  go_loopw [5] (fun i wr => ∃ k : Nat, k ≤ n ∧ i = .int .i64 k ∧ Below w.heap.size w wr ∧ allTo (freshMsg l) l k = true) (fun i _ => n - (intOf i).toNat)
  case atStart => exact ⟨0, by omega, rfl, Below.refl _ _, allTo_zero _ _⟩
  case round =>
    obtain ⟨k, hk, rfl, hb, hno⟩ := hrel
    have HN := Lib.hid hno; clear hno
    have hz := hb.size
    by_cases hkn : k < n
    · have HR := Lib.hid ((HL.out.below hb (Nat.le_refl _)).more hz)
      have hkc : k ≤ c := Nat.le_trans hk HR.out.2.2.1
      obtain ⟨b, off, p, rfl, hb1, hp, c0, c1, c2, c3, c4⟩ := msg_cells HR.out hkn
      have HT := Lib.hid (HR.out.take msgC_len hk)
      have HP := Lib.hid hp; clear hp
      cases g1 : msgB p.k p.r p.v p.p p.f
      · have HE : Hid (msgsOk l = false) := msgsOk_no HP.out (by simp [freshMsg, okMsg, g1])
        go_wp2_with fail
        refine wp_region_below (by kernel_rfl) (by kernel_rfl) ?_
        repeat (first | go_big_quiet_skip | (go_big_quiet_want; go_big_quiet_op; first | go_big_quiet_on | (apply Exists.intro; refine ⟨fun w1 hC => ?_, ?_⟩; (focus (first | rfl | (go_at_call 65; exact quiet_below hC (sMsgOk_any _ _ _ _ _ _)) | (go_at_call 56; exact quiet_below hC (l16Has_any _ _ _ (l.take k) p _ (by exact (HT.out.below hC (Nat.le_refl _)).more hC.size))) | (simp [(bcell hC).1, hb1, c0, c1, c2, c3, c4]; done) | (simp [(bcell hC).1, hb1, c0, c1, c2, c3, c4]; rfl))); go_big_quiet_on)))
        refine wpQuiet_nil ?_
        intro w2 hb2
        obtain ⟨hc2, hf2, hz2⟩ := bcell hb2
        go_wp2
        go_ret
        exact ⟨by rw [HE.out]; rfl, hb.trans (hb2.mono hz)⟩
      · cases g2 : hasB (l.take k) p
        · have HE : Hid (freshMsg l k p = true) := by show _ = _; simp [freshMsg, okMsg, g1, g2]
          go_wp2_with fail
          refine wp_region_below (by kernel_rfl) (by kernel_rfl) ?_
          repeat (first | go_big_quiet_skip | (go_big_quiet_want; go_big_quiet_op; first | go_big_quiet_on | (apply Exists.intro; refine ⟨fun w1 hC => ?_, ?_⟩; (focus (first | rfl | (go_at_call 65; exact quiet_below hC (sMsgOk_any _ _ _ _ _ _)) | (go_at_call 56; exact quiet_below hC (l16Has_any _ _ _ (l.take k) p _ (by exact (HT.out.below hC (Nat.le_refl _)).more hC.size))) | (simp [(bcell hC).1, hb1, c0, c1, c2, c3, c4]; done) | (simp [(bcell hC).1, hb1, c0, c1, c2, c3, c4]; rfl))); go_big_quiet_on)))
          refine wpQuiet_nil ?_
          intro w2 hb2
          obtain ⟨hc2, hf2, hz2⟩ := bcell hb2
          go_wp2
          go_roundw
          case rel => exact ⟨k + 1, by omega, by go_num, hb.trans (hb2.mono hz), fresh_next HP.out HN.out HE.out⟩
          case measure => simp [intOf]; omega
        · have HE : Hid (msgsOk l = false) := msgsOk_no HP.out (by simp [freshMsg, okMsg, g1, g2])
          go_wp2_with fail
          refine wp_region_below (by kernel_rfl) (by kernel_rfl) ?_
          repeat (first | go_big_quiet_skip | (go_big_quiet_want; go_big_quiet_op; first | go_big_quiet_on | (apply Exists.intro; refine ⟨fun w1 hC => ?_, ?_⟩; (focus (first | rfl | (go_at_call 65; exact quiet_below hC (sMsgOk_any _ _ _ _ _ _)) | (go_at_call 56; exact quiet_below hC (l16Has_any _ _ _ (l.take k) p _ (by exact (HT.out.below hC (Nat.le_refl _)).more hC.size))) | (simp [(bcell hC).1, hb1, c0, c1, c2, c3, c4]; done) | (simp [(bcell hC).1, hb1, c0, c1, c2, c3, c4]; rfl))); go_big_quiet_on)))
          refine wpQuiet_nil ?_
          intro w2 hb2
          obtain ⟨hc2, hf2, hz2⟩ := bcell hb2
          go_wp2
          go_ret
          exact ⟨by rw [HE.out]; rfl, hb.trans (hb2.mono hz)⟩
    · obtain rfl : k = n := by omega
      have HE : Hid (msgsOk l = true) := by show _ = _; unfold msgsOk; rw [H0.out]; exact HN.out
      go_wp2
      go_ret
      exact ⟨by rw [HE.out]; rfl, hb⟩
end Go.Proofs.Ytjgaelnonacdkaa
