/- Lists of validators: ValsOk, ShowVals, ValsHash of the program and of the reference (printed by wip/vals.py). -/
import Derived.Test.YtelnnegfkdfpiaaGreatDoorSign
import Derived.Test.YtelnnegfkdfpiaaGreatDoorFamVal
import Derived.WalkKit
import Derived.WalkSpells
import Derived.WalkLawsBesides
import Derived.Lib.Hide
namespace Go.Proofs.YtelnnegfkdfpiaaGreatDoor
open Go.RowKit

theorem allTo_getV {α : Type} {f : Nat → α → Bool} {l : List α} {k j : Nat} {x : α} (h : allTo f l k = true) (hj : j < k) (hx : l[j]? = some x) : f j x = true := by
  unfold allTo at h
  rw [List.all_eq_true] at h
  exact h (x, j) (List.mem_of_getElem? (i := j) (by rw [List.getElem?_zipIdx, List.getElem?_take, if_pos hj, hx]; simp))
def okVal (l : List ValD) (k : Nat) (p : ValD) : Bool := inB p.id 1 99 && (inB p.pw 1 1000 && (match k with | 0 => true | j + 1 => match l[j]? with | some q => !(decide (p.id ≤ q.id)) | none => true))
def valsB (l : List ValD) : Bool := allTo (okVal l) l l.length && inB l.length 1 7
theorem okVal_id {l : List ValD} {k : Nat} {p : ValD} (h : inB p.id 1 99 = false) : okVal l k p = false := by unfold okVal; rw [h]; rfl
theorem okVal_pw {l : List ValD} {k : Nat} {p : ValD} (h : inB p.pw 1 1000 = false) : okVal l k p = false := by unfold okVal; rw [h]; simp
theorem okVal_zero {l : List ValD} {p : ValD} (h : inB p.id 1 99 = true) (h2 : inB p.pw 1 1000 = true) : okVal l 0 p = true := by unfold okVal; rw [h, h2]; rfl
theorem okVal_next {l : List ValD} {j : Nat} {p q : ValD} (h : inB p.id 1 99 = true) (h2 : inB p.pw 1 1000 = true) (hq : l[j]? = some q) : okVal l (j + 1) p = !(decide (p.id ≤ q.id)) := by unfold okVal; rw [h, h2]; simp [hq]
theorem valsB_no {l : List ValD} (h : allTo (okVal l) l l.length = false) : valsB l = false := by unfold valsB; rw [h]; rfl
theorem valsB_all {l : List ValD} (h : allTo (okVal l) l l.length = true) : valsB l = inB l.length 1 7 := by unfold valsB; rw [h]; rfl
theorem valsB_len {l : List ValD} (h : valsB l = true) : 1 ≤ l.length ∧ l.length ≤ 7 := by
  simp only [valsB, Bool.and_eq_true, inB_iff] at h
  omega
def showV1 (x : ValD) : List UInt8 := varL x.id ++ varL x.pw
def showVL (l : List ValD) : List UInt8 := if valsB l = true then varL l.length ++ l.flatMap showV1 else []
theorem flatV_len (l : List ValD) : (l.flatMap showV1).length ≤ l.length * 14 := by
  induction l with
  | nil => simp
  | cons x l ih =>
    have h1 := varL_len x.id; have h2 := varL_len x.pw
    simp only [List.flatMap_cons, List.length_append, List.length_cons, showV1]
    have e : (l.length + 1) * 14 = l.length * 14 + 14 := by omega
    rw [e]; omega
theorem showVL_len (l : List ValD) : (showVL l).length ≤ 1000 := by
  unfold showVL
  split
  · rename_i h
    have h1 := valsB_len h; have h2 := flatV_len l; have h3 := varL_len (l.length : Int)
    rw [List.length_append]; omega
  · simp
def valsHashB (l : List ValD) : ByteArray := if valsB l = true then ⟨(shortL (showVL l)).toArray⟩ else ⟨#[]⟩
theorem take_nextV {α : Type} {l : List α} {k : Nat} {x : α} (h : l[k]? = some x) : l.take (k + 1) = l.take k ++ [x] := by
  rw [List.take_add_one, h]; rfl

set_option maxHeartbeats 4000000 in
theorem ValsOk_any (A : Option Addr) (n c : Nat) (l : List ValD) (w : World) (hl : RdL valC 2 w w.heap.size A n c l) :
    Calls Tryz.prog 92 #[.slice A n c] w fun e w' => e = .returned (.bool (valsB l)) ∧ Below w.heap.size w w' := by
  have hn := hl.le
  have HL := Lib.hid hl
  have H0 := Lib.hid hl.1
  clear hl
  go_enter Tryz.func92, Tryz.ntmps92
  go_wp2_with fail
  go_loopw [7] (fun i wr => ∃ k : Nat, k ≤ n ∧ i = .int .i64 k ∧ Below w.heap.size w wr ∧ allTo (okVal l) l k = true) (fun i _ => n - (intOf i).toNat)
  case atStart => exact ⟨0, by omega, rfl, Below.refl _ _, allTo_zero _ _⟩
  case round =>
    obtain ⟨k, hk, rfl, hb, hno⟩ := hrel
    have HN := Lib.hid hno; clear hno
    have hz := hb.size
    have HB := Lib.hid hb; clear hb
    by_cases hkn : k < n
    · have HR := Lib.hid (HL.out.below HB.out (Nat.le_refl _))
      obtain ⟨b, off, p, rfl, hb1, hp, c0, c1⟩ := val_cells HR.out hkn
      have HP := Lib.hid hp; clear hp
      have hbo : b < wr.heap.size := by omega
      have k0 : (0 : Int) ≤ k := by omega
      have k1 : (k : Int) < n := by omega
      cases g1 : inB p.id 1 99
      · have HF : Hid (valsB l = false) := valsB_no (allTo_no HP.out (okVal_id g1))
        have HBQ : Hid (Below w.heap.size w (wr.alloc (.cells #[.int .i64 p.id, .int .i64 p.pw] 84))) := HB.out.alloc hz _
        have AP : Hid (Blk (wr.alloc (.cells #[.int .i64 p.id, .int .i64 p.pw] 84)) wr.heap.size 84 #[.int .i64 p.id, .int .i64 p.pw]) := heap_alloc_new wr _
        have RQ := Lib.hid (HR.out.alloc hz (.cells #[.int .i64 p.id, .int .i64 p.pw] 84))
        have hbq : b < (wr.alloc (.cells #[.int .i64 p.id, .int .i64 p.pw] 84)).heap.size := by rw [World.size_alloc]; omega
        go_wp2_with fail
        generalize (wr.alloc (.cells #[.int .i64 p.id, .int .i64 p.pw] 84)) = wq at *
        have x0 : wq.cell? ⟨wr.heap.size, 0, none⟩ = some (.int .i64 p.id) := (AP.out.cell 0).trans rfl
        have x1 : wq.cell? ⟨wr.heap.size, 1, none⟩ = some (.int .i64 p.pw) := (AP.out.cell 1).trans rfl
        have pz : wr.heap.size < wq.heap.size := AP.out.lt
        clear AP
        refine wp_region_below (by kernel_rfl) (by kernel_rfl) ?_
        repeat (first | go_big_quiet_skip | (go_big_quiet_want; go_big_quiet_op; first | go_big_quiet_on | (apply Exists.intro; refine ⟨fun w1 hC => ?_, ?_⟩; (focus (first | rfl | (go_at_call 88; exact quiet_same hC (within_any _ _ _ _)) | (simp [(bcell hC).1, pz, x0]; done) | (simp [(bcell hC).1, pz, x0]; rfl))); go_big_quiet_on)))
        refine wpQuiet_nil ?_
        intro w2 hb2
        obtain ⟨hc2, hf2, hz2⟩ := bcell hb2
        go_wp2
        go_ret
        exact ⟨by rw [HF.out]; rfl, HBQ.out.trans (hb2.mono HBQ.out.size)⟩
      cases g2 : inB p.pw 1 1000
      · have HF : Hid (valsB l = false) := valsB_no (allTo_no HP.out (okVal_pw g2))
        have HBQ : Hid (Below w.heap.size w (wr.alloc (.cells #[.int .i64 p.id, .int .i64 p.pw] 84))) := HB.out.alloc hz _
        have AP : Hid (Blk (wr.alloc (.cells #[.int .i64 p.id, .int .i64 p.pw] 84)) wr.heap.size 84 #[.int .i64 p.id, .int .i64 p.pw]) := heap_alloc_new wr _
        have RQ := Lib.hid (HR.out.alloc hz (.cells #[.int .i64 p.id, .int .i64 p.pw] 84))
        have hbq : b < (wr.alloc (.cells #[.int .i64 p.id, .int .i64 p.pw] 84)).heap.size := by rw [World.size_alloc]; omega
        go_wp2_with fail
        generalize (wr.alloc (.cells #[.int .i64 p.id, .int .i64 p.pw] 84)) = wq at *
        have x0 : wq.cell? ⟨wr.heap.size, 0, none⟩ = some (.int .i64 p.id) := (AP.out.cell 0).trans rfl
        have x1 : wq.cell? ⟨wr.heap.size, 1, none⟩ = some (.int .i64 p.pw) := (AP.out.cell 1).trans rfl
        have pz : wr.heap.size < wq.heap.size := AP.out.lt
        clear AP
        refine wp_region_below (by kernel_rfl) (by kernel_rfl) ?_
        repeat (first | go_big_quiet_skip | (go_big_quiet_want; go_big_quiet_op; first | go_big_quiet_on | (apply Exists.intro; refine ⟨fun w1 hC => ?_, ?_⟩; (focus (first | rfl | (go_at_call 88; exact quiet_same hC (within_any _ _ _ _)) | (simp [(bcell hC).1, pz, x0, x1]; done) | (simp [(bcell hC).1, pz, x0, x1]; rfl))); go_big_quiet_on)))
        refine wpQuiet_nil ?_
        intro w2 hb2
        obtain ⟨hc2, hf2, hz2⟩ := bcell hb2
        go_wp2
        go_ret
        exact ⟨by rw [HF.out]; rfl, HBQ.out.trans (hb2.mono HBQ.out.size)⟩
      by_cases hk0 : k = 0
      · have HF : Hid (okVal l k p = true) := by show _ = _; subst hk0; exact okVal_zero g1 g2
        have hk9 : (k : Int) ≤ 0 := by omega
        have hk8 : decide (0 < k) = false := by subst hk0; rfl
        have HK := Lib.hid hk0
        clear hk0
        have HBQ : Hid (Below w.heap.size w (wr.alloc (.cells #[.int .i64 p.id, .int .i64 p.pw] 84))) := HB.out.alloc hz _
        have AP : Hid (Blk (wr.alloc (.cells #[.int .i64 p.id, .int .i64 p.pw] 84)) wr.heap.size 84 #[.int .i64 p.id, .int .i64 p.pw]) := heap_alloc_new wr _
        have RQ := Lib.hid (HR.out.alloc hz (.cells #[.int .i64 p.id, .int .i64 p.pw] 84))
        have hbq : b < (wr.alloc (.cells #[.int .i64 p.id, .int .i64 p.pw] 84)).heap.size := by rw [World.size_alloc]; omega
        go_wp2_with fail
        generalize (wr.alloc (.cells #[.int .i64 p.id, .int .i64 p.pw] 84)) = wq at *
        have x0 : wq.cell? ⟨wr.heap.size, 0, none⟩ = some (.int .i64 p.id) := (AP.out.cell 0).trans rfl
        have x1 : wq.cell? ⟨wr.heap.size, 1, none⟩ = some (.int .i64 p.pw) := (AP.out.cell 1).trans rfl
        have pz : wr.heap.size < wq.heap.size := AP.out.lt
        clear AP
        refine wp_region_below (by kernel_rfl) (by kernel_rfl) ?_
        repeat (first | go_big_quiet_skip | (go_big_quiet_want; go_big_quiet_op; first | go_big_quiet_on | (apply Exists.intro; refine ⟨fun w1 hC => ?_, ?_⟩; (focus (first | rfl | (go_at_call 88; exact quiet_same hC (within_any _ _ _ _)) | (simp [(bcell hC).1, pz, x0, x1]; done) | (simp [(bcell hC).1, pz, x0, x1]; rfl))); go_big_quiet_on)))
        refine wpQuiet_nil ?_
        intro w2 hb2
        obtain ⟨hc2, hf2, hz2⟩ := bcell hb2
        go_wp2
        go_roundw
        case rel => exact ⟨k + 1, by omega, by go_num, HBQ.out.trans (hb2.mono HBQ.out.size), by rw [allTo_succ HP.out, HN.out, HF.out]; rfl⟩
        case measure => simp [intOf]; omega
      · obtain ⟨j, rfl⟩ : ∃ j, k = j + 1 := ⟨k - 1, by omega⟩
        clear hk0
        have j1 : j < n := by omega
        obtain ⟨b2, off2, q, he, hb2', hx, e0, e1⟩ := val_cells HR.out j1
        simp only [Option.some.injEq, Addr.mk.injEq, and_true] at he
        obtain ⟨rfl, rfl⟩ := he
        have HX := Lib.hid hx; clear hx
        have hj0 : (0 : Int) ≤ j := by omega
        have hj1 : (j : Int) < n := by omega
        have hjg : decide (0 < j + 1) = true := by simp
        have hjp : (0 : Int) < (j : Int) + 1 := by omega
        cases g3 : decide (p.id ≤ q.id)
        · have HF : Hid (okVal l (j + 1) p = true) := (okVal_next g1 g2 HX.out).trans (by rw [g3]; rfl)
          have HBQ : Hid (Below w.heap.size w (wr.alloc (.cells #[.int .i64 p.id, .int .i64 p.pw] 84))) := HB.out.alloc hz _
          have AP : Hid (Blk (wr.alloc (.cells #[.int .i64 p.id, .int .i64 p.pw] 84)) wr.heap.size 84 #[.int .i64 p.id, .int .i64 p.pw]) := heap_alloc_new wr _
          have RQ := Lib.hid (HR.out.alloc hz (.cells #[.int .i64 p.id, .int .i64 p.pw] 84))
          have hbq : b < (wr.alloc (.cells #[.int .i64 p.id, .int .i64 p.pw] 84)).heap.size := by rw [World.size_alloc]; omega
          have e0' : (wr.alloc (.cells #[.int .i64 p.id, .int .i64 p.pw] 84)).cell? ⟨b, off + j * 2, none⟩ = some (.int .i64 q.id) := (World.cell?_alloc_lt wr _ _ (by show b < _; omega)).trans e0
          go_wp2_with fail
          generalize (wr.alloc (.cells #[.int .i64 p.id, .int .i64 p.pw] 84)) = wq at *
          have x0 : wq.cell? ⟨wr.heap.size, 0, none⟩ = some (.int .i64 p.id) := (AP.out.cell 0).trans rfl
          have x1 : wq.cell? ⟨wr.heap.size, 1, none⟩ = some (.int .i64 p.pw) := (AP.out.cell 1).trans rfl
          have pz : wr.heap.size < wq.heap.size := AP.out.lt
          clear AP
          refine wp_region_below (by kernel_rfl) (by kernel_rfl) ?_
          repeat (first | go_big_quiet_skip | (go_big_quiet_want; go_big_quiet_op; first | go_big_quiet_on | (apply Exists.intro; refine ⟨fun w1 hC => ?_, ?_⟩; (focus (first | rfl | (go_at_call 88; exact quiet_same hC (within_any _ _ _ _)) | (simp [(bcell hC).1, pz, hbq, x0, x1, e0']; done) | (simp [(bcell hC).1, pz, hbq, x0, x1, e0']; rfl))); go_big_quiet_on)))
          refine wpQuiet_nil ?_
          intro w2 hb2
          obtain ⟨hc2, hf2, hz2⟩ := bcell hb2
          go_wp2
          go_roundw
          case rel => exact ⟨j + 1 + 1, by omega, by go_num, HBQ.out.trans (hb2.mono HBQ.out.size), by rw [allTo_succ HP.out, HN.out, HF.out]; rfl⟩
          case measure => simp [intOf]; omega
        · have HF : Hid (valsB l = false) := valsB_no (allTo_no HP.out ((okVal_next g1 g2 HX.out).trans (by rw [g3]; rfl)))
          have HBQ : Hid (Below w.heap.size w (wr.alloc (.cells #[.int .i64 p.id, .int .i64 p.pw] 84))) := HB.out.alloc hz _
          have AP : Hid (Blk (wr.alloc (.cells #[.int .i64 p.id, .int .i64 p.pw] 84)) wr.heap.size 84 #[.int .i64 p.id, .int .i64 p.pw]) := heap_alloc_new wr _
          have RQ := Lib.hid (HR.out.alloc hz (.cells #[.int .i64 p.id, .int .i64 p.pw] 84))
          have hbq : b < (wr.alloc (.cells #[.int .i64 p.id, .int .i64 p.pw] 84)).heap.size := by rw [World.size_alloc]; omega
          have e0' : (wr.alloc (.cells #[.int .i64 p.id, .int .i64 p.pw] 84)).cell? ⟨b, off + j * 2, none⟩ = some (.int .i64 q.id) := (World.cell?_alloc_lt wr _ _ (by show b < _; omega)).trans e0
          go_wp2_with fail
          generalize (wr.alloc (.cells #[.int .i64 p.id, .int .i64 p.pw] 84)) = wq at *
          have x0 : wq.cell? ⟨wr.heap.size, 0, none⟩ = some (.int .i64 p.id) := (AP.out.cell 0).trans rfl
          have x1 : wq.cell? ⟨wr.heap.size, 1, none⟩ = some (.int .i64 p.pw) := (AP.out.cell 1).trans rfl
          have pz : wr.heap.size < wq.heap.size := AP.out.lt
          clear AP
          refine wp_region_below (by kernel_rfl) (by kernel_rfl) ?_
          repeat (first | go_big_quiet_skip | (go_big_quiet_want; go_big_quiet_op; first | go_big_quiet_on | (apply Exists.intro; refine ⟨fun w1 hC => ?_, ?_⟩; (focus (first | rfl | (go_at_call 88; exact quiet_same hC (within_any _ _ _ _)) | (simp [(bcell hC).1, pz, hbq, x0, x1, e0']; done) | (simp [(bcell hC).1, pz, hbq, x0, x1, e0']; rfl))); go_big_quiet_on)))
          refine wpQuiet_nil ?_
          intro w2 hb2
          obtain ⟨hc2, hf2, hz2⟩ := bcell hb2
          go_wp2
          go_ret
          exact ⟨by rw [HF.out]; rfl, HBQ.out.trans (hb2.mono HBQ.out.size)⟩
    · obtain rfl : k = n := by omega
      have HE : Hid (valsB l = inB l.length 1 7) := valsB_all (by rw [H0.out]; exact HN.out)
      go_wp2_with (go_at_call 88; (with_reducible refine (within_any _ _ _ _).mono ?_); rintro e w' ⟨rfl, rfl⟩)
      go_ret
      exact ⟨by rw [HE.out, H0.out]; rfl, HB.out⟩

set_option maxHeartbeats 2000000 in
theorem ShowVals_any (A : Option Addr) (n c : Nat) (l : List ValD) (w : World) (hl : RdL valC 2 w w.heap.size A n c l) :
    Calls Tryz.prog 93 #[.slice A n c] w fun e w' => e = .returned (.string ⟨(showVL l).toArray⟩) ∧ Below w.heap.size w w' := by
  have hn := hl.le
  have HL := Lib.hid hl
  have H0 := Lib.hid hl.1
  cases hv : valsB l
  · have HE : Hid (showVL l = []) := by show _ = _; unfold showVL; rw [hv]; rfl
    have HV := Lib.hid hv
    clear hv
    go_enter Tryz.func93, Tryz.ntmps93
    go_wp2_with fail
    refine (ValsOk_any A n c l _ hl).mono ?_
    rw [HV.out]
    rintro e w1 ⟨rfl, hb⟩
    go_wp2_with fail
    go_ret
    exact ⟨by rw [HE.out]; rfl, hb⟩
  · have HE : Hid (showVL l = varL l.length ++ l.flatMap showV1) := by show _ = _; unfold showVL; rw [hv]; rfl
    obtain ⟨h1, h7⟩ := valsB_len hv
    have hn7 : n ≤ 7 := by rw [← H0.out]; exact h7
    have HV := Lib.hid hv
    clear hv h1 h7
    go_enter Tryz.func93, Tryz.ntmps93
    go_wp2_with fail
    refine (ValsOk_any A n c l _ hl).mono ?_
    rw [HV.out]
    rintro e w1 ⟨rfl, hb⟩
    have HB1 := Lib.hid hb
    have HR1 := Lib.hid (HL.out.below hb (Nat.le_refl _))
    have s1 := hb.size
    clear hb hl
    go_wp2_with fail
    refine (Var_any _ _).mono ?_
    rintro e w2 ⟨rfl, hb⟩
    have HB2 := Lib.hid (HB1.out.trans (hb.mono s1))
    have s2 := HB2.out.size
    clear hb
    go_wp2_with fail
    go_loopw [3, 14] (fun sv i wr => ∃ k : Nat, k ≤ n ∧ i = .int .i64 k ∧ sv = .string ⟨(varL n ++ (l.take k).flatMap showV1).toArray⟩ ∧ Below w.heap.size w wr) (fun _ i _ => n - (intOf i).toNat)
    case atStart => exact ⟨0, by omega, rfl, by simp, HB2.out⟩
    case round =>
      obtain ⟨k, hk, rfl, rfl, hb⟩ := hrel
      have hz := hb.size
      have HB := Lib.hid hb; clear hb
      have HLk := Lib.hid (flatV_len (l.take k))
      have hfl : ((l.take k).flatMap showV1).length ≤ 98 := by have h := HLk.out; rw [List.length_take] at h; omega
      by_cases hkn : k < n
      · obtain ⟨b, off, p, rfl, hb1, hp, c0, c1⟩ := val_cells (HL.out.below HB.out (Nat.le_refl _)) hkn
        have HT := Lib.hid (take_nextV hp)
        clear hp
        have hbo : b < wr.heap.size := by omega
        have k0 : (0 : Int) ≤ k := by omega
        have k1 : (k : Int) < n := by omega
        have v0 := varL_len (n : Int); have v1 := varL_len p.id; have v2 := varL_len p.pw
        have HX : Hid ((⟨(varL n ++ (l.take k).flatMap showV1).toArray⟩ ++ ⟨(varL p.id).toArray⟩ ++ ⟨(varL p.pw).toArray⟩ : ByteArray) = ⟨(varL n ++ (l.take (k + 1)).flatMap showV1).toArray⟩) := by
          show _ = _
          rw [bcat, bcat, HT.out, List.flatMap_append]
          simp [showV1, List.append_assoc]
        generalize hfm : (l.take k).flatMap showV1 = fm at *
        clear hfm
        have HBQ : Hid (Below w.heap.size w (wr.alloc (.cells #[.int .i64 p.id, .int .i64 p.pw] 84))) := HB.out.alloc hz _
        have AP : Hid (Blk (wr.alloc (.cells #[.int .i64 p.id, .int .i64 p.pw] 84)) wr.heap.size 84 #[.int .i64 p.id, .int .i64 p.pw]) := heap_alloc_new wr _
        go_wp2_with fail
        generalize (wr.alloc (.cells #[.int .i64 p.id, .int .i64 p.pw] 84)) = wq at *
        have x0 : wq.cell? ⟨wr.heap.size, 0, none⟩ = some (.int .i64 p.id) := (AP.out.cell 0).trans rfl
        have x1 : wq.cell? ⟨wr.heap.size, 1, none⟩ = some (.int .i64 p.pw) := (AP.out.cell 1).trans rfl
        have pz : wr.heap.size < wq.heap.size := AP.out.lt
        clear AP
        refine wp_region_below (by kernel_rfl) (by kernel_rfl) ?_
        repeat (first | go_big_quiet_skip | (go_big_quiet_want; go_big_quiet_op; first | go_big_quiet_on | (apply Exists.intro; refine ⟨fun w1 hC => ?_, ?_⟩; (focus (first | rfl | (go_at_call 100; exact quiet_below hC (Var_any _ _)) | (simp [(bcell hC).1, pz, x0, x1]; done) | (simp [(bcell hC).1, pz, x0, x1]; rfl))); go_big_quiet_on)))
        refine wpQuiet_nil ?_
        intro w2 hb2
        obtain ⟨hc2, hf2, hz2⟩ := bcell hb2
        go_wp2
        go_roundw
        case rel => exact ⟨k + 1, by omega, by go_num, by rw [← HX.out], HBQ.out.trans (hb2.mono HBQ.out.size)⟩
        case measure => simp [intOf]; omega
      · obtain rfl : k = n := by omega
        have HTK : Hid (l.take k = l) := by show _ = _; rw [← H0.out]; exact List.take_length
        go_wp2_with fail
        go_ret
        exact ⟨by rw [HE.out, H0.out, HTK.out]; rfl, HB.out⟩

set_option maxHeartbeats 1000000 in
theorem ValsHash_any (A : Option Addr) (n c : Nat) (l : List ValD) (w : World) (hl : RdL valC 2 w w.heap.size A n c l) (ht : Tab w) :
    Calls Tryz.prog 73 #[.slice A n c] w fun e w' => e = .returned (.string (valsHashB l)) ∧ Below w.heap.size w w' := by
  have HL := Lib.hid hl
  clear hl
  have HT := Lib.hid ht
  clear ht
  cases hv : valsB l
  · have HE : Hid (valsHashB l = ⟨#[]⟩) := by show _ = _; unfold valsHashB; rw [hv]; rfl
    have HV := Lib.hid hv
    clear hv
    go_enter Tryz.func73, Tryz.ntmps73
    go_wp2_with fail
    refine (ValsOk_any A n c l _ HL.out).mono ?_
    rw [HV.out]
    rintro e w1 ⟨rfl, hb⟩
    go_wp2_with fail
    go_ret
    exact ⟨by rw [HE.out]; rfl, hb⟩
  · have HE : Hid (valsHashB l = ⟨(shortL (showVL l)).toArray⟩) := by show _ = _; unfold valsHashB; rw [hv]; rfl
    have HS : Hid ((⟨(showVL l).toArray⟩ : ByteArray).size ≤ 2097152) := by show (showVL l).length ≤ _; have := showVL_len l; omega
    have HV := Lib.hid hv
    clear hv
    go_enter Tryz.func73, Tryz.ntmps73
    go_wp2_with fail
    refine (ValsOk_any A n c l _ HL.out).mono ?_
    rw [HV.out]
    rintro e w1 ⟨rfl, hb⟩
    have HB1 := Lib.hid hb
    clear hb
    go_wp2_with fail
    refine (ShowVals_any A n c l _ (by exact (HL.out.below HB1.out (Nat.le_refl _)).more HB1.out.size)).mono ?_
    rintro e w2 ⟨rfl, hb⟩
    have HB2 := Lib.hid (HB1.out.trans (hb.mono HB1.out.size))
    clear hb
    go_wp2_with fail
    refine (Short_any _ _ HS.out (by exact HT.out.below HB2.out HT.out.pos)).mono ?_
    rintro e w3 ⟨rfl, hb⟩
    have HB3 := Lib.hid (HB2.out.trans (hb.mono HB2.out.size))
    clear hb
    go_wp2_with fail
    go_ret
    exact ⟨by rw [HE.out]; rfl, HB3.out⟩

set_option maxHeartbeats 4000000 in
theorem sValsOk_any (A : Option Addr) (n c : Nat) (l : List ValD) (w : World) (hl : RdL valC 2 w w.heap.size A n c l) :
    Calls Tryz.prog 46 #[.slice A n c] w fun e w' => e = .returned (.bool (valsB l)) ∧ Below w.heap.size w w' := by
  have hn := hl.le
  have HL := Lib.hid hl
  have H0 := Lib.hid hl.1
  clear hl
  cases hin : inB n 1 7
  · have HE : Hid (valsB l = false) := by show _ = _; unfold valsB; rw [H0.out, hin]; simp
    go_enter Tryz.func46, Tryz.ntmps46
    go_wp2_with (go_at_call 75; (with_reducible refine (l1In_any _ _ _ _).mono ?_); rintro e w' ⟨rfl, rfl⟩)
    go_ret
    exact ⟨by rw [HE.out]; rfl, Below.refl _ _⟩
  have HIN := Lib.hid hin
  go_enter Tryz.func46, Tryz.ntmps46
  go_wp2_with (go_at_call 75; (with_reducible refine (l1In_any _ _ _ _).mono ?_); rintro e w' ⟨rfl, rfl⟩)
  go_loopw [3] (fun i wr => ∃ k : Nat, k ≤ n ∧ i = .int .i64 k ∧ Below w.heap.size w wr ∧ allTo (okVal l) l k = true) (fun i _ => n - (intOf i).toNat)
  case atStart => exact ⟨0, by omega, rfl, Below.refl _ _, allTo_zero _ _⟩
  case round =>
    obtain ⟨k, hk, rfl, hb, hno⟩ := hrel
    have HN := Lib.hid hno; clear hno
    have hz := hb.size
    have HB := Lib.hid hb; clear hb
    by_cases hkn : k < n
    · have HR := Lib.hid (HL.out.below HB.out (Nat.le_refl _))
      obtain ⟨b, off, p, rfl, hb1, hp, c0, c1⟩ := val_cells HR.out hkn
      have HP := Lib.hid hp; clear hp
      have hbo : b < wr.heap.size := by omega
      have k0 : (0 : Int) ≤ k := by omega
      have k1 : (k : Int) < n := by omega
      cases g1 : inB p.id 1 99
      · have HF : Hid (valsB l = false) := valsB_no (allTo_no HP.out (okVal_id g1))
        go_wp2_with fail
        refine wp_region_below (by kernel_rfl) (by kernel_rfl) ?_
        repeat (first | go_big_quiet_skip | (go_big_quiet_want; go_big_quiet_op; first | go_big_quiet_on | (apply Exists.intro; refine ⟨fun w1 hC => ?_, ?_⟩; (focus (first | rfl | (go_at_call 75; exact quiet_same hC (l1In_any _ _ _ _)) | (simp [(bcell hC).1, hbo, c0]; done) | (simp [(bcell hC).1, hbo, c0]; rfl))); go_big_quiet_on)))
        refine wpQuiet_nil ?_
        intro w2 hb2
        obtain ⟨hc2, hf2, hz2⟩ := bcell hb2
        go_wp2
        go_ret
        exact ⟨by rw [HF.out]; rfl, HB.out.trans (hb2.mono hz)⟩
      cases g2 : inB p.pw 1 1000
      · have HF : Hid (valsB l = false) := valsB_no (allTo_no HP.out (okVal_pw g2))
        go_wp2_with fail
        refine wp_region_below (by kernel_rfl) (by kernel_rfl) ?_
        repeat (first | go_big_quiet_skip | (go_big_quiet_want; go_big_quiet_op; first | go_big_quiet_on | (apply Exists.intro; refine ⟨fun w1 hC => ?_, ?_⟩; (focus (first | rfl | (go_at_call 75; exact quiet_same hC (l1In_any _ _ _ _)) | (simp [(bcell hC).1, hbo, c0, c1]; done) | (simp [(bcell hC).1, hbo, c0, c1]; rfl))); go_big_quiet_on)))
        refine wpQuiet_nil ?_
        intro w2 hb2
        obtain ⟨hc2, hf2, hz2⟩ := bcell hb2
        go_wp2
        go_ret
        exact ⟨by rw [HF.out]; rfl, HB.out.trans (hb2.mono hz)⟩
      by_cases hk0 : k = 0
      · have HF : Hid (okVal l k p = true) := by show _ = _; subst hk0; exact okVal_zero g1 g2
        have hk9 : (k : Int) ≤ 0 := by omega
        have hk8 : decide (0 < k) = false := by subst hk0; rfl
        have HK := Lib.hid hk0
        clear hk0
        go_wp2_with fail
        refine wp_region_below (by kernel_rfl) (by kernel_rfl) ?_
        repeat (first | go_big_quiet_skip | (go_big_quiet_want; go_big_quiet_op; first | go_big_quiet_on | (apply Exists.intro; refine ⟨fun w1 hC => ?_, ?_⟩; (focus (first | rfl | (go_at_call 75; exact quiet_same hC (l1In_any _ _ _ _)) | (simp [(bcell hC).1, hbo, c0, c1]; done) | (simp [(bcell hC).1, hbo, c0, c1]; rfl))); go_big_quiet_on)))
        refine wpQuiet_nil ?_
        intro w2 hb2
        obtain ⟨hc2, hf2, hz2⟩ := bcell hb2
        go_wp2
        go_roundw
        case rel => exact ⟨k + 1, by omega, by go_num, HB.out.trans (hb2.mono hz), by rw [allTo_succ HP.out, HN.out, HF.out]; rfl⟩
        case measure => simp [intOf]; omega
      · obtain ⟨j, rfl⟩ : ∃ j, k = j + 1 := ⟨k - 1, by omega⟩
        clear hk0
        have j1 : j < n := by omega
        obtain ⟨b2, off2, q, he, hb2', hx, e0, e1⟩ := val_cells HR.out j1
        simp only [Option.some.injEq, Addr.mk.injEq, and_true] at he
        obtain ⟨rfl, rfl⟩ := he
        have HX := Lib.hid hx; clear hx
        have hj0 : (0 : Int) ≤ j := by omega
        have hj1 : (j : Int) < n := by omega
        have hjg : decide (0 < j + 1) = true := by simp
        have hjp : (0 : Int) < (j : Int) + 1 := by omega
        cases g3 : decide (p.id ≤ q.id)
        · have HF : Hid (okVal l (j + 1) p = true) := (okVal_next g1 g2 HX.out).trans (by rw [g3]; rfl)
          go_wp2_with fail
          refine wp_region_below (by kernel_rfl) (by kernel_rfl) ?_
          repeat (first | go_big_quiet_skip | (go_big_quiet_want; go_big_quiet_op; first | go_big_quiet_on | (apply Exists.intro; refine ⟨fun w1 hC => ?_, ?_⟩; (focus (first | rfl | (go_at_call 75; exact quiet_same hC (l1In_any _ _ _ _)) | (simp [(bcell hC).1, hbo, c0, c1, e0]; done) | (simp [(bcell hC).1, hbo, c0, c1, e0]; rfl))); go_big_quiet_on)))
          refine wpQuiet_nil ?_
          intro w2 hb2
          obtain ⟨hc2, hf2, hz2⟩ := bcell hb2
          go_wp2
          go_roundw
          case rel => exact ⟨j + 1 + 1, by omega, by go_num, HB.out.trans (hb2.mono hz), by rw [allTo_succ HP.out, HN.out, HF.out]; rfl⟩
          case measure => simp [intOf]; omega
        · have HF : Hid (valsB l = false) := valsB_no (allTo_no HP.out ((okVal_next g1 g2 HX.out).trans (by rw [g3]; rfl)))
          go_wp2_with fail
          refine wp_region_below (by kernel_rfl) (by kernel_rfl) ?_
          repeat (first | go_big_quiet_skip | (go_big_quiet_want; go_big_quiet_op; first | go_big_quiet_on | (apply Exists.intro; refine ⟨fun w1 hC => ?_, ?_⟩; (focus (first | rfl | (go_at_call 75; exact quiet_same hC (l1In_any _ _ _ _)) | (simp [(bcell hC).1, hbo, c0, c1, e0]; done) | (simp [(bcell hC).1, hbo, c0, c1, e0]; rfl))); go_big_quiet_on)))
          refine wpQuiet_nil ?_
          intro w2 hb2
          obtain ⟨hc2, hf2, hz2⟩ := bcell hb2
          go_wp2
          go_ret
          exact ⟨by rw [HF.out]; rfl, HB.out.trans (hb2.mono hz)⟩
    · obtain rfl : k = n := by omega
      have HE : Hid (valsB l = true) := (valsB_all (by rw [H0.out]; exact HN.out)).trans (by rw [H0.out]; exact HIN.out)
      go_wp2_with fail
      go_ret
      exact ⟨by rw [HE.out]; rfl, HB.out⟩

set_option maxHeartbeats 2000000 in
theorem sShowVals_any (A : Option Addr) (n c : Nat) (l : List ValD) (w : World) (hl : RdL valC 2 w w.heap.size A n c l) :
    Calls Tryz.prog 77 #[.slice A n c] w fun e w' => e = .returned (.string ⟨(showVL l).toArray⟩) ∧ Below w.heap.size w w' := by
  have hn := hl.le
  have HL := Lib.hid hl
  have H0 := Lib.hid hl.1
  cases hv : valsB l
  · have HE : Hid (showVL l = []) := by show _ = _; unfold showVL; rw [hv]; rfl
    have HV := Lib.hid hv
    clear hv
    go_enter Tryz.func77, Tryz.ntmps77
    go_wp2_with fail
    refine (sValsOk_any A n c l _ hl).mono ?_
    rw [HV.out]
    rintro e w1 ⟨rfl, hb⟩
    go_wp2_with fail
    go_ret
    exact ⟨by rw [HE.out]; rfl, hb⟩
  · have HE : Hid (showVL l = varL l.length ++ l.flatMap showV1) := by show _ = _; unfold showVL; rw [hv]; rfl
    obtain ⟨h1, h7⟩ := valsB_len hv
    have hn7 : n ≤ 7 := by rw [← H0.out]; exact h7
    have HV := Lib.hid hv
    clear hv h1 h7
    go_enter Tryz.func77, Tryz.ntmps77
    go_wp2_with fail
    refine (sValsOk_any A n c l _ hl).mono ?_
    rw [HV.out]
    rintro e w1 ⟨rfl, hb⟩
    have HB1 := Lib.hid hb
    have HR1 := Lib.hid (HL.out.below hb (Nat.le_refl _))
    have s1 := hb.size
    clear hb hl
    go_wp2_with fail
    refine (sVar_any _ _).mono ?_
    rintro e w2 ⟨rfl, hb⟩
    have HB2 := Lib.hid (HB1.out.trans (hb.mono s1))
    have s2 := HB2.out.size
    clear hb
    go_wp2_with fail
    go_loopw [3, 4] (fun sv i wr => ∃ k : Nat, k ≤ n ∧ i = .int .i64 k ∧ sv = .string ⟨(varL n ++ (l.take k).flatMap showV1).toArray⟩ ∧ Below w.heap.size w wr) (fun _ i _ => n - (intOf i).toNat)
    case atStart => exact ⟨0, by omega, rfl, by simp, HB2.out⟩
    case round =>
      obtain ⟨k, hk, rfl, rfl, hb⟩ := hrel
      have hz := hb.size
      have HB := Lib.hid hb; clear hb
      have HLk := Lib.hid (flatV_len (l.take k))
      have hfl : ((l.take k).flatMap showV1).length ≤ 98 := by have h := HLk.out; rw [List.length_take] at h; omega
      by_cases hkn : k < n
      · obtain ⟨b, off, p, rfl, hb1, hp, c0, c1⟩ := val_cells (HL.out.below HB.out (Nat.le_refl _)) hkn
        have HT := Lib.hid (take_nextV hp)
        clear hp
        have hbo : b < wr.heap.size := by omega
        have k0 : (0 : Int) ≤ k := by omega
        have k1 : (k : Int) < n := by omega
        have v0 := varL_len (n : Int); have v1 := varL_len p.id; have v2 := varL_len p.pw
        have HX : Hid ((⟨(varL n ++ (l.take k).flatMap showV1).toArray⟩ ++ ⟨(varL p.id).toArray⟩ ++ ⟨(varL p.pw).toArray⟩ : ByteArray) = ⟨(varL n ++ (l.take (k + 1)).flatMap showV1).toArray⟩) := by
          show _ = _
          rw [bcat, bcat, HT.out, List.flatMap_append]
          simp [showV1, List.append_assoc]
        generalize hfm : (l.take k).flatMap showV1 = fm at *
        clear hfm
        go_wp2_with fail
        refine wp_region_below (by kernel_rfl) (by kernel_rfl) ?_
        repeat (first | go_big_quiet_skip | (go_big_quiet_want; go_big_quiet_op; first | go_big_quiet_on | (apply Exists.intro; refine ⟨fun w1 hC => ?_, ?_⟩; (focus (first | rfl | (go_at_call 79; exact quiet_below hC (sVar_any _ _)) | (simp [(bcell hC).1, hbo, c0, c1]; done) | (simp [(bcell hC).1, hbo, c0, c1]; rfl))); go_big_quiet_on)))
        refine wpQuiet_nil ?_
        intro w2 hb2
        obtain ⟨hc2, hf2, hz2⟩ := bcell hb2
        go_wp2
        go_roundw
        case rel => exact ⟨k + 1, by omega, by go_num, by rw [← HX.out], HB.out.trans (hb2.mono hz)⟩
        case measure => simp [intOf]; omega
      · obtain rfl : k = n := by omega
        have HTK : Hid (l.take k = l) := by show _ = _; rw [← H0.out]; exact List.take_length
        go_wp2_with fail
        go_ret
        exact ⟨by rw [HE.out, H0.out, HTK.out]; rfl, HB.out⟩

set_option maxHeartbeats 1000000 in
theorem sValsHash_any (A : Option Addr) (n c : Nat) (l : List ValD) (w : World) (hl : RdL valC 2 w w.heap.size A n c l) :
    Calls Tryz.prog 47 #[.slice A n c] w fun e w' => e = .returned (.string (valsHashB l)) ∧ Below w.heap.size w w' := by
  have HL := Lib.hid hl
  clear hl
  cases hv : valsB l
  · have HE : Hid (valsHashB l = ⟨#[]⟩) := by show _ = _; unfold valsHashB; rw [hv]; rfl
    have HV := Lib.hid hv
    clear hv
    go_enter Tryz.func47, Tryz.ntmps47
    go_wp2_with fail
    refine (sValsOk_any A n c l _ HL.out).mono ?_
    rw [HV.out]
    rintro e w1 ⟨rfl, hb⟩
    go_wp2_with fail
    go_ret
    exact ⟨by rw [HE.out]; rfl, hb⟩
  · have HE : Hid (valsHashB l = ⟨(shortL (showVL l)).toArray⟩) := by show _ = _; unfold valsHashB; rw [hv]; rfl
    have HS : Hid ((⟨(showVL l).toArray⟩ : ByteArray).size ≤ 2097152) := by show (showVL l).length ≤ _; have := showVL_len l; omega
    have HV := Lib.hid hv
    clear hv
    go_enter Tryz.func47, Tryz.ntmps47
    go_wp2_with fail
    refine (sValsOk_any A n c l _ HL.out).mono ?_
    rw [HV.out]
    rintro e w1 ⟨rfl, hb⟩
    have HB1 := Lib.hid hb
    clear hb
    go_wp2_with fail
    refine (sShowVals_any A n c l _ (by exact (HL.out.below HB1.out (Nat.le_refl _)).more HB1.out.size)).mono ?_
    rintro e w2 ⟨rfl, hb⟩
    have HB2 := Lib.hid (HB1.out.trans (hb.mono HB1.out.size))
    clear hb
    go_wp2_with fail
    refine (sShort_any _ _ HS.out).mono ?_
    rintro e w3 ⟨rfl, hb⟩
    have HB3 := Lib.hid (HB2.out.trans (hb.mono HB2.out.size))
    clear hb
    go_wp2_with fail
    go_ret
    exact ⟨by rw [HE.out]; rfl, HB3.out⟩
end Go.Proofs.YtelnnegfkdfpiaaGreatDoor
