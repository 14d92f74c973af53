/- StoreOk of the program and of the reference (printed by wip/storeok.py). -/
import Derived.Test.YtjdknaipmboekaaDoorHead
import Derived.WalkKit
import Derived.WalkSpells
import Derived.WalkLawsBesides
import Derived.Lib.Hide
namespace Go.Proofs.YtjdknaipmboekaaDoor
open Go.RowKit

def linkB (q p : HeaderD) : Bool := !((p.h != q.h + 1) || (!(p.last.toList == (headIdB q).toList) || (decide (p.t ≤ q.t) || !(p.vals.toList == q.next.toList))))
def headOk (l : List HeaderD) (k : Nat) (p : HeaderD) : Bool := hdrB p && (match k with | 0 => true | j + 1 => match l[j]? with | some q => linkB q p | none => true)
def storeB (l : List HeaderD) (syn : Int) : Bool := allTo (headOk l) l l.length && (decide ((l.length : Int) ≤ 20) && inB syn 0 l.length)
theorem allTo_get {α : Type} {f : Nat → α → Bool} {l : List α} {k j : Nat} {x : α} (h : allTo f l k = true) (hj : j < k) (hx : l[j]? = some x) : f j x = true := by
  unfold allTo at h
  rw [List.all_eq_true] at h
  exact h (x, j) (List.mem_of_getElem? (i := j) (by rw [List.getElem?_zipIdx, List.getElem?_take, if_pos hj, hx]; simp))
theorem headOk_hdr {l : List HeaderD} {k : Nat} {p : HeaderD} (h : headOk l k p = true) : hdrB p = true := by
  unfold headOk at h; rw [Bool.and_eq_true] at h; exact h.1
theorem headOk_no {l : List HeaderD} {k : Nat} {p : HeaderD} (h : hdrB p = false) : headOk l k p = false := by unfold headOk; rw [h]; rfl
theorem headOk_zero {l : List HeaderD} {p : HeaderD} (h : hdrB p = true) : headOk l 0 p = true := by unfold headOk; rw [h]; rfl
theorem headOk_link {l : List HeaderD} {j : Nat} {p q : HeaderD} (h : hdrB p = true) (hq : l[j]? = some q) : headOk l (j + 1) p = linkB q p := by unfold headOk; rw [h]; simp [hq]
theorem storeB_no {l : List HeaderD} {syn : Int} (h : allTo (headOk l) l l.length = false) : storeB l syn = false := by unfold storeB; rw [h]; rfl
theorem storeB_all {l : List HeaderD} {syn : Int} (h : allTo (headOk l) l l.length = true) : storeB l syn = (decide ((l.length : Int) ≤ 20) && inB syn 0 l.length) := by unfold storeB; rw [h]; rfl

set_option maxHeartbeats 4000000 in
theorem StoreOk_any (A : Option Addr) (n c : Nat) (l : List HeaderD) (syn : Int) (w : World) (hl : RdL headC 6 w w.heap.size A n c l) (ht : Tab w) :
    Calls Tryd.prog 13 #[.agg #[.slice A n c, .int .i64 syn]] w fun e w' => e = .returned (.bool (storeB l syn)) ∧ Below w.heap.size w w' := by
  have hn := hl.le
  have HL := Lib.hid hl
  have H0 := Lib.hid hl.1
  clear hl
  have HT := Lib.hid ht
  clear ht
  go_enter Tryd.func13, Tryd.ntmps13
  go_wp2_with fail
  go_loopw [9] (fun i wr => ∃ k : Nat, k ≤ n ∧ i = .int .i64 k ∧ Below (w.heap.size + 1) (w.alloc (.cells #[.slice A n c, .int .i64 syn] 29)) wr ∧ allTo (headOk l) l k = true) (fun i _ => n - (intOf i).toNat)
  case atStart => exact ⟨0, by omega, rfl, Below.refl _ _, allTo_zero _ _⟩
  case round =>
    obtain ⟨k, hk, rfl, hb, hno⟩ := hrel
    obtain ⟨wo, hwo⟩ : ∃ x, x = wr := ⟨_, rfl⟩
    subst hwo
    have HN := Lib.hid hno; clear hno
    have hz : w.heap.size + 1 ≤ wo.heap.size := by have := hb.size; simpa using this
    have hz1 : w.heap.size < wo.heap.size := by omega
    have A0 : Hid (Blk wo w.heap.size 29 #[.slice A n c, .int .i64 syn]) := Blk.below (heap_alloc_new w _) hb (by omega)
    have s0 : wo.cell? ⟨w.heap.size, 0, none⟩ = some (.slice A n c) := (A0.out.cell 0).trans rfl
    have s1 : wo.cell? ⟨w.heap.size, 1, none⟩ = some (.int .i64 syn) := (A0.out.cell 1).trans rfl
    have HB : Hid (Below w.heap.size w wo) := ((Below.refl _ _).alloc (Nat.le_refl _) _).trans (hb.mono (by omega))
    have HBO := Lib.hid hb; clear hb
    by_cases hkn : k < n
    · have HR := Lib.hid (HL.out.below HB.out (Nat.le_refl _))
      obtain ⟨b, off, p, rfl, hb1, hp, c0, c1, c2, c3, c4, c5⟩ := head_cells HR.out hkn
      have HP := Lib.hid hp; clear hp
      have hbo : b < wo.heap.size := by omega
      have k0 : (0 : Int) ≤ k := by omega
      have k1 : (k : Int) < n := by omega
      cases hq : hdrB p
      · have HF : Hid (storeB l syn = false) := storeB_no (allTo_no HP.out (headOk_no hq))
        go_wp2_with fail
        refine (HeaderOk_any p _).mono ?_
        rintro e w1 ⟨rfl, hb1'⟩
        have hz2 : wo.heap.size + 1 ≤ w1.heap.size := by have h := hb1'.size; rw [World.size_alloc] at h; exact h
        have HB1 : Hid (Below w.heap.size w w1) := (HB.out.alloc (by omega) _).trans (hb1'.mono (by rw [World.size_alloc]; omega))
        clear hb1'
        go_wp2_with fail
        go_ret
        exact ⟨by rw [HF.out]; rfl, HB1.out⟩
      · have HQ := Lib.hid hq
        by_cases hk0 : k = 0
        · have hkb : ((k : Int) == 0) = true := by subst hk0; rfl
          have hkc : (k : Int) ≤ 0 := by omega
          have HK := Lib.hid hk0
          clear hk0
          go_wp2_with fail
          refine (HeaderOk_any p _).mono ?_
          rintro e w1 ⟨rfl, hb1'⟩
          have hz2 : wo.heap.size + 1 ≤ w1.heap.size := by have h := hb1'.size; rw [World.size_alloc] at h; exact h
          have HB1 : Hid (Below (w.heap.size + 1) (w.alloc (.cells #[.slice (some ⟨b, off, none⟩) n c, .int .i64 syn] 29)) w1) := (HBO.out.alloc (by omega) _).trans (hb1'.mono (by rw [World.size_alloc]; omega))
          clear hb1'
          go_wp2_with fail
          go_roundw
          case rel => exact ⟨k + 1, by omega, by go_num, HB1.out, by rw [allTo_succ HP.out, HN.out, HK.out, headOk_zero HQ.out]; rfl⟩
          case measure => simp [intOf]; omega
        · obtain ⟨j, rfl⟩ : ∃ j, k = j + 1 := ⟨k - 1, by omega⟩
          clear hk0
          have j1 : j < n := by omega
          obtain ⟨b2, off2, q, he, hb2, hx, e0, e1, e2, e3, e4, e5⟩ := head_cells HR.out j1
          simp only [Option.some.injEq, Addr.mk.injEq, and_true] at he
          obtain ⟨rfl, rfl⟩ := he
          have HX := Lib.hid hx; clear hx
          obtain ⟨_, _, _, _, q0, q1⟩ := hdrB_sizes (headOk_hdr (allTo_get HN.out (by omega) HX.out))
          have hj0 : (0 : Int) ≤ j := by omega
          have hj1 : (j : Int) < n := by omega
          have HID : ∀ wx : World, Tab wx → Hid (Calls Tryd.prog 42 #[.agg #[.int .i64 q.h, .int .i64 q.t, .string q.last, .string q.vals, .string q.next, .string q.data]] wx fun e w' => e = .returned (.string (headIdB q)) ∧ Below wx.heap.size wx w') := fun wx hx => HeadId_any q wx hx
          have hjb : ((j : Int) + 1 == 0) = false := by simp; omega
          have hq8 : Hid (linkB q p = !((p.h != q.h + 1) || (!(p.last.toList == (headIdB q).toList) || (decide (p.t ≤ q.t) || !(p.vals.toList == q.next.toList))))) := rfl
          generalize headIdB q = gq at *
          cases g1 : (p.h != q.h + 1)
          case true =>
            have HF : Hid (storeB l syn = false) := storeB_no (allTo_no HP.out ((headOk_link HQ.out HX.out).trans (by rw [hq8.out]; simp [g1])))
            go_wp2_with fail
            refine (HeaderOk_any p _).mono ?_
            rintro e w1 ⟨rfl, hb1'⟩
            have hz2 : wo.heap.size + 1 ≤ w1.heap.size := by have h := hb1'.size; rw [World.size_alloc] at h; exact h
            have D1 := HBO.out.alloc (by omega) (.cells #[.int .i64 p.h, .int .i64 p.t, .string p.last, .string p.vals, .string p.next, .string p.data] 34)
            have HB1 : Hid (Below (w.heap.size + 1) (w.alloc (.cells #[.slice (some ⟨b, off, none⟩) n c, .int .i64 syn] 29)) w1) := D1.trans (hb1'.mono (by rw [World.size_alloc]; omega))
            have AP : Hid (Blk w1 wo.heap.size 34 #[.int .i64 p.h, .int .i64 p.t, .string p.last, .string p.vals, .string p.next, .string p.data]) := Blk.below (heap_alloc_new wo _) hb1' (by rw [World.size_alloc]; omega)
            clear D1
            have z0 : w1.cell? ⟨w.heap.size, 0, none⟩ = some (.slice (some ⟨b, off, none⟩) n c) := (HB1.out.cell (p := ⟨w.heap.size, 0, none⟩) (by show w.heap.size < _; omega)).trans (by simp)
            have v0 : w1.cell? ⟨b, off + j * 6, none⟩ = some (.int .i64 q.h) := (hb1'.cell (p := ⟨b, off + j * 6, none⟩) (by show b < _; rw [World.size_alloc]; omega)).trans ((World.cell?_alloc_lt wo _ _ (by show b < _; omega)).trans e0)
            have v1 : w1.cell? ⟨b, off + j * 6 + 1, none⟩ = some (.int .i64 q.t) := (hb1'.cell (p := ⟨b, off + j * 6 + 1, none⟩) (by show b < _; rw [World.size_alloc]; omega)).trans ((World.cell?_alloc_lt wo _ _ (by show b < _; omega)).trans e1)
            have v2 : w1.cell? ⟨b, off + j * 6 + 2, none⟩ = some (.string q.last) := (hb1'.cell (p := ⟨b, off + j * 6 + 2, none⟩) (by show b < _; rw [World.size_alloc]; omega)).trans ((World.cell?_alloc_lt wo _ _ (by show b < _; omega)).trans e2)
            have v3 : w1.cell? ⟨b, off + j * 6 + 3, none⟩ = some (.string q.vals) := (hb1'.cell (p := ⟨b, off + j * 6 + 3, none⟩) (by show b < _; rw [World.size_alloc]; omega)).trans ((World.cell?_alloc_lt wo _ _ (by show b < _; omega)).trans e3)
            have v4 : w1.cell? ⟨b, off + j * 6 + 4, none⟩ = some (.string q.next) := (hb1'.cell (p := ⟨b, off + j * 6 + 4, none⟩) (by show b < _; rw [World.size_alloc]; omega)).trans ((World.cell?_alloc_lt wo _ _ (by show b < _; omega)).trans e4)
            have v5 : w1.cell? ⟨b, off + j * 6 + 5, none⟩ = some (.string q.data) := (hb1'.cell (p := ⟨b, off + j * 6 + 5, none⟩) (by show b < _; rw [World.size_alloc]; omega)).trans ((World.cell?_alloc_lt wo _ _ (by show b < _; omega)).trans e5)
            have hbw : b < w1.heap.size := by omega
            have hww : w.heap.size < w1.heap.size := by omega
            clear hb1'
            have HQB1 : Hid (Below (w.heap.size + 1) (w.alloc (.cells #[.slice (some ⟨b, off, none⟩) n c, .int .i64 syn] 29)) (w1.alloc (.cells #[.int .i64 q.h, .int .i64 q.t, .string q.last, .string q.vals, .string q.next, .string q.data] 34))) := HB1.out.alloc (by omega) _
            have AP2 : Hid (Blk (w1.alloc (.cells #[.int .i64 q.h, .int .i64 q.t, .string q.last, .string q.vals, .string q.next, .string q.data] 34)) wo.heap.size 34 #[.int .i64 p.h, .int .i64 p.t, .string p.last, .string p.vals, .string p.next, .string p.data]) := AP.out.alloc _
            have AQ2 : Hid (Blk (w1.alloc (.cells #[.int .i64 q.h, .int .i64 q.t, .string q.last, .string q.vals, .string q.next, .string q.data] 34)) w1.heap.size 34 #[.int .i64 q.h, .int .i64 q.t, .string q.last, .string q.vals, .string q.next, .string q.data]) := heap_alloc_new w1 _
            go_wp2_with fail
            clear z0 v0 v1 v2 v3 v4 v5 AP HB1
            generalize (w1.alloc (.cells #[.int .i64 q.h, .int .i64 q.t, .string q.last, .string q.vals, .string q.next, .string q.data] 34)) = wq at *
            have x0 : wq.cell? ⟨wo.heap.size, 0, none⟩ = some (.int .i64 p.h) := (AP2.out.cell 0).trans rfl
            have x1 : wq.cell? ⟨wo.heap.size, 1, none⟩ = some (.int .i64 p.t) := (AP2.out.cell 1).trans rfl
            have x2 : wq.cell? ⟨wo.heap.size, 2, none⟩ = some (.string p.last) := (AP2.out.cell 2).trans rfl
            have x3 : wq.cell? ⟨wo.heap.size, 3, none⟩ = some (.string p.vals) := (AP2.out.cell 3).trans rfl
            have x4 : wq.cell? ⟨wo.heap.size, 4, none⟩ = some (.string p.next) := (AP2.out.cell 4).trans rfl
            have x5 : wq.cell? ⟨wo.heap.size, 5, none⟩ = some (.string p.data) := (AP2.out.cell 5).trans rfl
            have y0 : wq.cell? ⟨w1.heap.size, 0, none⟩ = some (.int .i64 q.h) := (AQ2.out.cell 0).trans rfl
            have y1 : wq.cell? ⟨w1.heap.size, 1, none⟩ = some (.int .i64 q.t) := (AQ2.out.cell 1).trans rfl
            have y2 : wq.cell? ⟨w1.heap.size, 2, none⟩ = some (.string q.last) := (AQ2.out.cell 2).trans rfl
            have y3 : wq.cell? ⟨w1.heap.size, 3, none⟩ = some (.string q.vals) := (AQ2.out.cell 3).trans rfl
            have y4 : wq.cell? ⟨w1.heap.size, 4, none⟩ = some (.string q.next) := (AQ2.out.cell 4).trans rfl
            have y5 : wq.cell? ⟨w1.heap.size, 5, none⟩ = some (.string q.data) := (AQ2.out.cell 5).trans rfl
            have pz : wo.heap.size < wq.heap.size := AP2.out.lt
            have qz : w1.heap.size < wq.heap.size := AQ2.out.lt
            clear AP2 AQ2
            have HBQ : Hid (Below w.heap.size w wq) := ((Below.refl _ _).alloc (Nat.le_refl _) _).trans (HQB1.out.mono (by omega))
            skip
            refine wp_region_below (by kernel_rfl) (by kernel_rfl) ?_
            repeat (first | go_big_quiet_skip | (go_big_quiet_want; go_big_quiet_op; first | go_big_quiet_on | (apply Exists.intro; refine ⟨fun w1 hC => ?_, ?_⟩; (focus (first | rfl | (go_at_call 42; exact quiet_below hC ((HID _ (by exact (HT.out.below HBQ.out HT.out.pos).below hC (by omega))).out)) | (simp [(bcell hC).1, pz, qz, x0, y0]; done) | (simp [(bcell hC).1, pz, qz, x0, y0]; rfl))); go_big_quiet_on)))
            refine wpQuiet_nil ?_
            intro w2 hb2
            obtain ⟨hc2, hf2, hz2⟩ := bcell hb2
            go_wp2
            go_ret
            exact ⟨by rw [HF.out]; rfl, HBQ.out.trans (hb2.mono HBQ.out.size)⟩
          case false =>
            cases g2 : (p.last.toList == gq.toList)
            case false =>
              have HF : Hid (storeB l syn = false) := storeB_no (allTo_no HP.out ((headOk_link HQ.out HX.out).trans (by rw [hq8.out]; simp [g1, g2])))
              go_wp2_with fail
              refine (HeaderOk_any p _).mono ?_
              rintro e w1 ⟨rfl, hb1'⟩
              have hz2 : wo.heap.size + 1 ≤ w1.heap.size := by have h := hb1'.size; rw [World.size_alloc] at h; exact h
              have D1 := HBO.out.alloc (by omega) (.cells #[.int .i64 p.h, .int .i64 p.t, .string p.last, .string p.vals, .string p.next, .string p.data] 34)
              have HB1 : Hid (Below (w.heap.size + 1) (w.alloc (.cells #[.slice (some ⟨b, off, none⟩) n c, .int .i64 syn] 29)) w1) := D1.trans (hb1'.mono (by rw [World.size_alloc]; omega))
              have AP : Hid (Blk w1 wo.heap.size 34 #[.int .i64 p.h, .int .i64 p.t, .string p.last, .string p.vals, .string p.next, .string p.data]) := Blk.below (heap_alloc_new wo _) hb1' (by rw [World.size_alloc]; omega)
              clear D1
              have z0 : w1.cell? ⟨w.heap.size, 0, none⟩ = some (.slice (some ⟨b, off, none⟩) n c) := (HB1.out.cell (p := ⟨w.heap.size, 0, none⟩) (by show w.heap.size < _; omega)).trans (by simp)
              have v0 : w1.cell? ⟨b, off + j * 6, none⟩ = some (.int .i64 q.h) := (hb1'.cell (p := ⟨b, off + j * 6, none⟩) (by show b < _; rw [World.size_alloc]; omega)).trans ((World.cell?_alloc_lt wo _ _ (by show b < _; omega)).trans e0)
              have v1 : w1.cell? ⟨b, off + j * 6 + 1, none⟩ = some (.int .i64 q.t) := (hb1'.cell (p := ⟨b, off + j * 6 + 1, none⟩) (by show b < _; rw [World.size_alloc]; omega)).trans ((World.cell?_alloc_lt wo _ _ (by show b < _; omega)).trans e1)
              have v2 : w1.cell? ⟨b, off + j * 6 + 2, none⟩ = some (.string q.last) := (hb1'.cell (p := ⟨b, off + j * 6 + 2, none⟩) (by show b < _; rw [World.size_alloc]; omega)).trans ((World.cell?_alloc_lt wo _ _ (by show b < _; omega)).trans e2)
              have v3 : w1.cell? ⟨b, off + j * 6 + 3, none⟩ = some (.string q.vals) := (hb1'.cell (p := ⟨b, off + j * 6 + 3, none⟩) (by show b < _; rw [World.size_alloc]; omega)).trans ((World.cell?_alloc_lt wo _ _ (by show b < _; omega)).trans e3)
              have v4 : w1.cell? ⟨b, off + j * 6 + 4, none⟩ = some (.string q.next) := (hb1'.cell (p := ⟨b, off + j * 6 + 4, none⟩) (by show b < _; rw [World.size_alloc]; omega)).trans ((World.cell?_alloc_lt wo _ _ (by show b < _; omega)).trans e4)
              have v5 : w1.cell? ⟨b, off + j * 6 + 5, none⟩ = some (.string q.data) := (hb1'.cell (p := ⟨b, off + j * 6 + 5, none⟩) (by show b < _; rw [World.size_alloc]; omega)).trans ((World.cell?_alloc_lt wo _ _ (by show b < _; omega)).trans e5)
              have hbw : b < w1.heap.size := by omega
              have hww : w.heap.size < w1.heap.size := by omega
              clear hb1'
              have HQB1 : Hid (Below (w.heap.size + 1) (w.alloc (.cells #[.slice (some ⟨b, off, none⟩) n c, .int .i64 syn] 29)) (w1.alloc (.cells #[.int .i64 q.h, .int .i64 q.t, .string q.last, .string q.vals, .string q.next, .string q.data] 34))) := HB1.out.alloc (by omega) _
              have AP2 : Hid (Blk (w1.alloc (.cells #[.int .i64 q.h, .int .i64 q.t, .string q.last, .string q.vals, .string q.next, .string q.data] 34)) wo.heap.size 34 #[.int .i64 p.h, .int .i64 p.t, .string p.last, .string p.vals, .string p.next, .string p.data]) := AP.out.alloc _
              have AQ2 : Hid (Blk (w1.alloc (.cells #[.int .i64 q.h, .int .i64 q.t, .string q.last, .string q.vals, .string q.next, .string q.data] 34)) w1.heap.size 34 #[.int .i64 q.h, .int .i64 q.t, .string q.last, .string q.vals, .string q.next, .string q.data]) := heap_alloc_new w1 _
              go_wp2_with fail
              clear z0 v0 v1 v2 v3 v4 v5 AP HB1
              generalize (w1.alloc (.cells #[.int .i64 q.h, .int .i64 q.t, .string q.last, .string q.vals, .string q.next, .string q.data] 34)) = wq at *
              have x0 : wq.cell? ⟨wo.heap.size, 0, none⟩ = some (.int .i64 p.h) := (AP2.out.cell 0).trans rfl
              have x1 : wq.cell? ⟨wo.heap.size, 1, none⟩ = some (.int .i64 p.t) := (AP2.out.cell 1).trans rfl
              have x2 : wq.cell? ⟨wo.heap.size, 2, none⟩ = some (.string p.last) := (AP2.out.cell 2).trans rfl
              have x3 : wq.cell? ⟨wo.heap.size, 3, none⟩ = some (.string p.vals) := (AP2.out.cell 3).trans rfl
              have x4 : wq.cell? ⟨wo.heap.size, 4, none⟩ = some (.string p.next) := (AP2.out.cell 4).trans rfl
              have x5 : wq.cell? ⟨wo.heap.size, 5, none⟩ = some (.string p.data) := (AP2.out.cell 5).trans rfl
              have y0 : wq.cell? ⟨w1.heap.size, 0, none⟩ = some (.int .i64 q.h) := (AQ2.out.cell 0).trans rfl
              have y1 : wq.cell? ⟨w1.heap.size, 1, none⟩ = some (.int .i64 q.t) := (AQ2.out.cell 1).trans rfl
              have y2 : wq.cell? ⟨w1.heap.size, 2, none⟩ = some (.string q.last) := (AQ2.out.cell 2).trans rfl
              have y3 : wq.cell? ⟨w1.heap.size, 3, none⟩ = some (.string q.vals) := (AQ2.out.cell 3).trans rfl
              have y4 : wq.cell? ⟨w1.heap.size, 4, none⟩ = some (.string q.next) := (AQ2.out.cell 4).trans rfl
              have y5 : wq.cell? ⟨w1.heap.size, 5, none⟩ = some (.string q.data) := (AQ2.out.cell 5).trans rfl
              have pz : wo.heap.size < wq.heap.size := AP2.out.lt
              have qz : w1.heap.size < wq.heap.size := AQ2.out.lt
              clear AP2 AQ2
              have HBQ : Hid (Below w.heap.size w wq) := ((Below.refl _ _).alloc (Nat.le_refl _) _).trans (HQB1.out.mono (by omega))
              skip
              refine wp_region_below (by kernel_rfl) (by kernel_rfl) ?_
              repeat (first | go_big_quiet_skip | (go_big_quiet_want; go_big_quiet_op; first | go_big_quiet_on | (apply Exists.intro; refine ⟨fun w1 hC => ?_, ?_⟩; (focus (first | rfl | (go_at_call 42; exact quiet_below hC ((HID _ (by exact (HT.out.below HBQ.out HT.out.pos).below hC (by omega))).out)) | (simp [(bcell hC).1, pz, qz, x0, x2, y0, y1, y2, y3, y4, y5]; done) | (simp [(bcell hC).1, pz, qz, x0, x2, y0, y1, y2, y3, y4, y5]; rfl))); go_big_quiet_on)))
              refine wpQuiet_nil ?_
              intro w2 hb2
              obtain ⟨hc2, hf2, hz2⟩ := bcell hb2
              go_wp2
              go_ret
              exact ⟨by rw [HF.out]; rfl, HBQ.out.trans (hb2.mono HBQ.out.size)⟩
            case true =>
              cases g3 : decide (p.t ≤ q.t)
              case true =>
                have HF : Hid (storeB l syn = false) := storeB_no (allTo_no HP.out ((headOk_link HQ.out HX.out).trans (by rw [hq8.out]; simp [g1, g2, g3])))
                go_wp2_with fail
                refine (HeaderOk_any p _).mono ?_
                rintro e w1 ⟨rfl, hb1'⟩
                have hz2 : wo.heap.size + 1 ≤ w1.heap.size := by have h := hb1'.size; rw [World.size_alloc] at h; exact h
                have D1 := HBO.out.alloc (by omega) (.cells #[.int .i64 p.h, .int .i64 p.t, .string p.last, .string p.vals, .string p.next, .string p.data] 34)
                have HB1 : Hid (Below (w.heap.size + 1) (w.alloc (.cells #[.slice (some ⟨b, off, none⟩) n c, .int .i64 syn] 29)) w1) := D1.trans (hb1'.mono (by rw [World.size_alloc]; omega))
                have AP : Hid (Blk w1 wo.heap.size 34 #[.int .i64 p.h, .int .i64 p.t, .string p.last, .string p.vals, .string p.next, .string p.data]) := Blk.below (heap_alloc_new wo _) hb1' (by rw [World.size_alloc]; omega)
                clear D1
                have z0 : w1.cell? ⟨w.heap.size, 0, none⟩ = some (.slice (some ⟨b, off, none⟩) n c) := (HB1.out.cell (p := ⟨w.heap.size, 0, none⟩) (by show w.heap.size < _; omega)).trans (by simp)
                have v0 : w1.cell? ⟨b, off + j * 6, none⟩ = some (.int .i64 q.h) := (hb1'.cell (p := ⟨b, off + j * 6, none⟩) (by show b < _; rw [World.size_alloc]; omega)).trans ((World.cell?_alloc_lt wo _ _ (by show b < _; omega)).trans e0)
                have v1 : w1.cell? ⟨b, off + j * 6 + 1, none⟩ = some (.int .i64 q.t) := (hb1'.cell (p := ⟨b, off + j * 6 + 1, none⟩) (by show b < _; rw [World.size_alloc]; omega)).trans ((World.cell?_alloc_lt wo _ _ (by show b < _; omega)).trans e1)
                have v2 : w1.cell? ⟨b, off + j * 6 + 2, none⟩ = some (.string q.last) := (hb1'.cell (p := ⟨b, off + j * 6 + 2, none⟩) (by show b < _; rw [World.size_alloc]; omega)).trans ((World.cell?_alloc_lt wo _ _ (by show b < _; omega)).trans e2)
                have v3 : w1.cell? ⟨b, off + j * 6 + 3, none⟩ = some (.string q.vals) := (hb1'.cell (p := ⟨b, off + j * 6 + 3, none⟩) (by show b < _; rw [World.size_alloc]; omega)).trans ((World.cell?_alloc_lt wo _ _ (by show b < _; omega)).trans e3)
                have v4 : w1.cell? ⟨b, off + j * 6 + 4, none⟩ = some (.string q.next) := (hb1'.cell (p := ⟨b, off + j * 6 + 4, none⟩) (by show b < _; rw [World.size_alloc]; omega)).trans ((World.cell?_alloc_lt wo _ _ (by show b < _; omega)).trans e4)
                have v5 : w1.cell? ⟨b, off + j * 6 + 5, none⟩ = some (.string q.data) := (hb1'.cell (p := ⟨b, off + j * 6 + 5, none⟩) (by show b < _; rw [World.size_alloc]; omega)).trans ((World.cell?_alloc_lt wo _ _ (by show b < _; omega)).trans e5)
                have hbw : b < w1.heap.size := by omega
                have hww : w.heap.size < w1.heap.size := by omega
                clear hb1'
                have HQB1 : Hid (Below (w.heap.size + 1) (w.alloc (.cells #[.slice (some ⟨b, off, none⟩) n c, .int .i64 syn] 29)) (w1.alloc (.cells #[.int .i64 q.h, .int .i64 q.t, .string q.last, .string q.vals, .string q.next, .string q.data] 34))) := HB1.out.alloc (by omega) _
                have AP2 : Hid (Blk (w1.alloc (.cells #[.int .i64 q.h, .int .i64 q.t, .string q.last, .string q.vals, .string q.next, .string q.data] 34)) wo.heap.size 34 #[.int .i64 p.h, .int .i64 p.t, .string p.last, .string p.vals, .string p.next, .string p.data]) := AP.out.alloc _
                have AQ2 : Hid (Blk (w1.alloc (.cells #[.int .i64 q.h, .int .i64 q.t, .string q.last, .string q.vals, .string q.next, .string q.data] 34)) w1.heap.size 34 #[.int .i64 q.h, .int .i64 q.t, .string q.last, .string q.vals, .string q.next, .string q.data]) := heap_alloc_new w1 _
                go_wp2_with fail
                clear z0 v0 v1 v2 v3 v4 v5 AP HB1
                generalize (w1.alloc (.cells #[.int .i64 q.h, .int .i64 q.t, .string q.last, .string q.vals, .string q.next, .string q.data] 34)) = wq at *
                have x0 : wq.cell? ⟨wo.heap.size, 0, none⟩ = some (.int .i64 p.h) := (AP2.out.cell 0).trans rfl
                have x1 : wq.cell? ⟨wo.heap.size, 1, none⟩ = some (.int .i64 p.t) := (AP2.out.cell 1).trans rfl
                have x2 : wq.cell? ⟨wo.heap.size, 2, none⟩ = some (.string p.last) := (AP2.out.cell 2).trans rfl
                have x3 : wq.cell? ⟨wo.heap.size, 3, none⟩ = some (.string p.vals) := (AP2.out.cell 3).trans rfl
                have x4 : wq.cell? ⟨wo.heap.size, 4, none⟩ = some (.string p.next) := (AP2.out.cell 4).trans rfl
                have x5 : wq.cell? ⟨wo.heap.size, 5, none⟩ = some (.string p.data) := (AP2.out.cell 5).trans rfl
                have y0 : wq.cell? ⟨w1.heap.size, 0, none⟩ = some (.int .i64 q.h) := (AQ2.out.cell 0).trans rfl
                have y1 : wq.cell? ⟨w1.heap.size, 1, none⟩ = some (.int .i64 q.t) := (AQ2.out.cell 1).trans rfl
                have y2 : wq.cell? ⟨w1.heap.size, 2, none⟩ = some (.string q.last) := (AQ2.out.cell 2).trans rfl
                have y3 : wq.cell? ⟨w1.heap.size, 3, none⟩ = some (.string q.vals) := (AQ2.out.cell 3).trans rfl
                have y4 : wq.cell? ⟨w1.heap.size, 4, none⟩ = some (.string q.next) := (AQ2.out.cell 4).trans rfl
                have y5 : wq.cell? ⟨w1.heap.size, 5, none⟩ = some (.string q.data) := (AQ2.out.cell 5).trans rfl
                have pz : wo.heap.size < wq.heap.size := AP2.out.lt
                have qz : w1.heap.size < wq.heap.size := AQ2.out.lt
                clear AP2 AQ2
                have HBQ : Hid (Below w.heap.size w wq) := ((Below.refl _ _).alloc (Nat.le_refl _) _).trans (HQB1.out.mono (by omega))
                skip
                refine wp_region_below (by kernel_rfl) (by kernel_rfl) ?_
                repeat (first | go_big_quiet_skip | (go_big_quiet_want; go_big_quiet_op; first | go_big_quiet_on | (apply Exists.intro; refine ⟨fun w1 hC => ?_, ?_⟩; (focus (first | rfl | (go_at_call 42; exact quiet_below hC ((HID _ (by exact (HT.out.below HBQ.out HT.out.pos).below hC (by omega))).out)) | (simp [(bcell hC).1, pz, qz, x0, x1, x2, y0, y1, y2, y3, y4, y5]; done) | (simp [(bcell hC).1, pz, qz, x0, x1, x2, y0, y1, y2, y3, y4, y5]; rfl))); go_big_quiet_on)))
                refine wpQuiet_nil ?_
                intro w2 hb2
                obtain ⟨hc2, hf2, hz2⟩ := bcell hb2
                go_wp2
                go_ret
                exact ⟨by rw [HF.out]; rfl, HBQ.out.trans (hb2.mono HBQ.out.size)⟩
              case false =>
                cases g4 : (p.vals.toList == q.next.toList)
                case false =>
                  have HF : Hid (storeB l syn = false) := storeB_no (allTo_no HP.out ((headOk_link HQ.out HX.out).trans (by rw [hq8.out]; simp [g1, g2, g3, g4])))
                  go_wp2_with fail
                  refine (HeaderOk_any p _).mono ?_
                  rintro e w1 ⟨rfl, hb1'⟩
                  have hz2 : wo.heap.size + 1 ≤ w1.heap.size := by have h := hb1'.size; rw [World.size_alloc] at h; exact h
                  have D1 := HBO.out.alloc (by omega) (.cells #[.int .i64 p.h, .int .i64 p.t, .string p.last, .string p.vals, .string p.next, .string p.data] 34)
                  have HB1 : Hid (Below (w.heap.size + 1) (w.alloc (.cells #[.slice (some ⟨b, off, none⟩) n c, .int .i64 syn] 29)) w1) := D1.trans (hb1'.mono (by rw [World.size_alloc]; omega))
                  have AP : Hid (Blk w1 wo.heap.size 34 #[.int .i64 p.h, .int .i64 p.t, .string p.last, .string p.vals, .string p.next, .string p.data]) := Blk.below (heap_alloc_new wo _) hb1' (by rw [World.size_alloc]; omega)
                  clear D1
                  have z0 : w1.cell? ⟨w.heap.size, 0, none⟩ = some (.slice (some ⟨b, off, none⟩) n c) := (HB1.out.cell (p := ⟨w.heap.size, 0, none⟩) (by show w.heap.size < _; omega)).trans (by simp)
                  have v0 : w1.cell? ⟨b, off + j * 6, none⟩ = some (.int .i64 q.h) := (hb1'.cell (p := ⟨b, off + j * 6, none⟩) (by show b < _; rw [World.size_alloc]; omega)).trans ((World.cell?_alloc_lt wo _ _ (by show b < _; omega)).trans e0)
                  have v1 : w1.cell? ⟨b, off + j * 6 + 1, none⟩ = some (.int .i64 q.t) := (hb1'.cell (p := ⟨b, off + j * 6 + 1, none⟩) (by show b < _; rw [World.size_alloc]; omega)).trans ((World.cell?_alloc_lt wo _ _ (by show b < _; omega)).trans e1)
                  have v2 : w1.cell? ⟨b, off + j * 6 + 2, none⟩ = some (.string q.last) := (hb1'.cell (p := ⟨b, off + j * 6 + 2, none⟩) (by show b < _; rw [World.size_alloc]; omega)).trans ((World.cell?_alloc_lt wo _ _ (by show b < _; omega)).trans e2)
                  have v3 : w1.cell? ⟨b, off + j * 6 + 3, none⟩ = some (.string q.vals) := (hb1'.cell (p := ⟨b, off + j * 6 + 3, none⟩) (by show b < _; rw [World.size_alloc]; omega)).trans ((World.cell?_alloc_lt wo _ _ (by show b < _; omega)).trans e3)
                  have v4 : w1.cell? ⟨b, off + j * 6 + 4, none⟩ = some (.string q.next) := (hb1'.cell (p := ⟨b, off + j * 6 + 4, none⟩) (by show b < _; rw [World.size_alloc]; omega)).trans ((World.cell?_alloc_lt wo _ _ (by show b < _; omega)).trans e4)
                  have v5 : w1.cell? ⟨b, off + j * 6 + 5, none⟩ = some (.string q.data) := (hb1'.cell (p := ⟨b, off + j * 6 + 5, none⟩) (by show b < _; rw [World.size_alloc]; omega)).trans ((World.cell?_alloc_lt wo _ _ (by show b < _; omega)).trans e5)
                  have hbw : b < w1.heap.size := by omega
                  have hww : w.heap.size < w1.heap.size := by omega
                  clear hb1'
                  have HQB1 : Hid (Below (w.heap.size + 1) (w.alloc (.cells #[.slice (some ⟨b, off, none⟩) n c, .int .i64 syn] 29)) (w1.alloc (.cells #[.int .i64 q.h, .int .i64 q.t, .string q.last, .string q.vals, .string q.next, .string q.data] 34))) := HB1.out.alloc (by omega) _
                  have AP2 : Hid (Blk (w1.alloc (.cells #[.int .i64 q.h, .int .i64 q.t, .string q.last, .string q.vals, .string q.next, .string q.data] 34)) wo.heap.size 34 #[.int .i64 p.h, .int .i64 p.t, .string p.last, .string p.vals, .string p.next, .string p.data]) := AP.out.alloc _
                  have AQ2 : Hid (Blk (w1.alloc (.cells #[.int .i64 q.h, .int .i64 q.t, .string q.last, .string q.vals, .string q.next, .string q.data] 34)) w1.heap.size 34 #[.int .i64 q.h, .int .i64 q.t, .string q.last, .string q.vals, .string q.next, .string q.data]) := heap_alloc_new w1 _
                  go_wp2_with fail
                  clear z0 v0 v1 v2 v3 v4 v5 AP HB1
                  generalize (w1.alloc (.cells #[.int .i64 q.h, .int .i64 q.t, .string q.last, .string q.vals, .string q.next, .string q.data] 34)) = wq at *
                  have x0 : wq.cell? ⟨wo.heap.size, 0, none⟩ = some (.int .i64 p.h) := (AP2.out.cell 0).trans rfl
                  have x1 : wq.cell? ⟨wo.heap.size, 1, none⟩ = some (.int .i64 p.t) := (AP2.out.cell 1).trans rfl
                  have x2 : wq.cell? ⟨wo.heap.size, 2, none⟩ = some (.string p.last) := (AP2.out.cell 2).trans rfl
                  have x3 : wq.cell? ⟨wo.heap.size, 3, none⟩ = some (.string p.vals) := (AP2.out.cell 3).trans rfl
                  have x4 : wq.cell? ⟨wo.heap.size, 4, none⟩ = some (.string p.next) := (AP2.out.cell 4).trans rfl
                  have x5 : wq.cell? ⟨wo.heap.size, 5, none⟩ = some (.string p.data) := (AP2.out.cell 5).trans rfl
                  have y0 : wq.cell? ⟨w1.heap.size, 0, none⟩ = some (.int .i64 q.h) := (AQ2.out.cell 0).trans rfl
                  have y1 : wq.cell? ⟨w1.heap.size, 1, none⟩ = some (.int .i64 q.t) := (AQ2.out.cell 1).trans rfl
                  have y2 : wq.cell? ⟨w1.heap.size, 2, none⟩ = some (.string q.last) := (AQ2.out.cell 2).trans rfl
                  have y3 : wq.cell? ⟨w1.heap.size, 3, none⟩ = some (.string q.vals) := (AQ2.out.cell 3).trans rfl
                  have y4 : wq.cell? ⟨w1.heap.size, 4, none⟩ = some (.string q.next) := (AQ2.out.cell 4).trans rfl
                  have y5 : wq.cell? ⟨w1.heap.size, 5, none⟩ = some (.string q.data) := (AQ2.out.cell 5).trans rfl
                  have pz : wo.heap.size < wq.heap.size := AP2.out.lt
                  have qz : w1.heap.size < wq.heap.size := AQ2.out.lt
                  clear AP2 AQ2
                  have HBQ : Hid (Below w.heap.size w wq) := ((Below.refl _ _).alloc (Nat.le_refl _) _).trans (HQB1.out.mono (by omega))
                  skip
                  refine wp_region_below (by kernel_rfl) (by kernel_rfl) ?_
                  repeat (first | go_big_quiet_skip | (go_big_quiet_want; go_big_quiet_op; first | go_big_quiet_on | (apply Exists.intro; refine ⟨fun w1 hC => ?_, ?_⟩; (focus (first | rfl | (go_at_call 42; exact quiet_below hC ((HID _ (by exact (HT.out.below HBQ.out HT.out.pos).below hC (by omega))).out)) | (simp [(bcell hC).1, pz, qz, x0, x1, x2, x3, y0, y1, y2, y3, y4, y5]; done) | (simp [(bcell hC).1, pz, qz, x0, x1, x2, x3, y0, y1, y2, y3, y4, y5]; rfl))); go_big_quiet_on)))
                  refine wpQuiet_nil ?_
                  intro w2 hb2
                  obtain ⟨hc2, hf2, hz2⟩ := bcell hb2
                  go_wp2
                  go_ret
                  exact ⟨by rw [HF.out]; rfl, HBQ.out.trans (hb2.mono HBQ.out.size)⟩
                case true =>
                  have HF : Hid (headOk l (j + 1) p = true) := (headOk_link HQ.out HX.out).trans (by rw [hq8.out]; simp [g1, g2, g3, g4])
                  go_wp2_with fail
                  refine (HeaderOk_any p _).mono ?_
                  rintro e w1 ⟨rfl, hb1'⟩
                  have hz2 : wo.heap.size + 1 ≤ w1.heap.size := by have h := hb1'.size; rw [World.size_alloc] at h; exact h
                  have D1 := HBO.out.alloc (by omega) (.cells #[.int .i64 p.h, .int .i64 p.t, .string p.last, .string p.vals, .string p.next, .string p.data] 34)
                  have HB1 : Hid (Below (w.heap.size + 1) (w.alloc (.cells #[.slice (some ⟨b, off, none⟩) n c, .int .i64 syn] 29)) w1) := D1.trans (hb1'.mono (by rw [World.size_alloc]; omega))
                  have AP : Hid (Blk w1 wo.heap.size 34 #[.int .i64 p.h, .int .i64 p.t, .string p.last, .string p.vals, .string p.next, .string p.data]) := Blk.below (heap_alloc_new wo _) hb1' (by rw [World.size_alloc]; omega)
                  clear D1
                  have z0 : w1.cell? ⟨w.heap.size, 0, none⟩ = some (.slice (some ⟨b, off, none⟩) n c) := (HB1.out.cell (p := ⟨w.heap.size, 0, none⟩) (by show w.heap.size < _; omega)).trans (by simp)
                  have v0 : w1.cell? ⟨b, off + j * 6, none⟩ = some (.int .i64 q.h) := (hb1'.cell (p := ⟨b, off + j * 6, none⟩) (by show b < _; rw [World.size_alloc]; omega)).trans ((World.cell?_alloc_lt wo _ _ (by show b < _; omega)).trans e0)
                  have v1 : w1.cell? ⟨b, off + j * 6 + 1, none⟩ = some (.int .i64 q.t) := (hb1'.cell (p := ⟨b, off + j * 6 + 1, none⟩) (by show b < _; rw [World.size_alloc]; omega)).trans ((World.cell?_alloc_lt wo _ _ (by show b < _; omega)).trans e1)
                  have v2 : w1.cell? ⟨b, off + j * 6 + 2, none⟩ = some (.string q.last) := (hb1'.cell (p := ⟨b, off + j * 6 + 2, none⟩) (by show b < _; rw [World.size_alloc]; omega)).trans ((World.cell?_alloc_lt wo _ _ (by show b < _; omega)).trans e2)
                  have v3 : w1.cell? ⟨b, off + j * 6 + 3, none⟩ = some (.string q.vals) := (hb1'.cell (p := ⟨b, off + j * 6 + 3, none⟩) (by show b < _; rw [World.size_alloc]; omega)).trans ((World.cell?_alloc_lt wo _ _ (by show b < _; omega)).trans e3)
                  have v4 : w1.cell? ⟨b, off + j * 6 + 4, none⟩ = some (.string q.next) := (hb1'.cell (p := ⟨b, off + j * 6 + 4, none⟩) (by show b < _; rw [World.size_alloc]; omega)).trans ((World.cell?_alloc_lt wo _ _ (by show b < _; omega)).trans e4)
                  have v5 : w1.cell? ⟨b, off + j * 6 + 5, none⟩ = some (.string q.data) := (hb1'.cell (p := ⟨b, off + j * 6 + 5, none⟩) (by show b < _; rw [World.size_alloc]; omega)).trans ((World.cell?_alloc_lt wo _ _ (by show b < _; omega)).trans e5)
                  have hbw : b < w1.heap.size := by omega
                  have hww : w.heap.size < w1.heap.size := by omega
                  clear hb1'
                  have HQB1 : Hid (Below (w.heap.size + 1) (w.alloc (.cells #[.slice (some ⟨b, off, none⟩) n c, .int .i64 syn] 29)) (w1.alloc (.cells #[.int .i64 q.h, .int .i64 q.t, .string q.last, .string q.vals, .string q.next, .string q.data] 34))) := HB1.out.alloc (by omega) _
                  have AP2 : Hid (Blk (w1.alloc (.cells #[.int .i64 q.h, .int .i64 q.t, .string q.last, .string q.vals, .string q.next, .string q.data] 34)) wo.heap.size 34 #[.int .i64 p.h, .int .i64 p.t, .string p.last, .string p.vals, .string p.next, .string p.data]) := AP.out.alloc _
                  have AQ2 : Hid (Blk (w1.alloc (.cells #[.int .i64 q.h, .int .i64 q.t, .string q.last, .string q.vals, .string q.next, .string q.data] 34)) w1.heap.size 34 #[.int .i64 q.h, .int .i64 q.t, .string q.last, .string q.vals, .string q.next, .string q.data]) := heap_alloc_new w1 _
                  go_wp2_with fail
                  clear z0 v0 v1 v2 v3 v4 v5 AP HB1
                  generalize (w1.alloc (.cells #[.int .i64 q.h, .int .i64 q.t, .string q.last, .string q.vals, .string q.next, .string q.data] 34)) = wq at *
                  have x0 : wq.cell? ⟨wo.heap.size, 0, none⟩ = some (.int .i64 p.h) := (AP2.out.cell 0).trans rfl
                  have x1 : wq.cell? ⟨wo.heap.size, 1, none⟩ = some (.int .i64 p.t) := (AP2.out.cell 1).trans rfl
                  have x2 : wq.cell? ⟨wo.heap.size, 2, none⟩ = some (.string p.last) := (AP2.out.cell 2).trans rfl
                  have x3 : wq.cell? ⟨wo.heap.size, 3, none⟩ = some (.string p.vals) := (AP2.out.cell 3).trans rfl
                  have x4 : wq.cell? ⟨wo.heap.size, 4, none⟩ = some (.string p.next) := (AP2.out.cell 4).trans rfl
                  have x5 : wq.cell? ⟨wo.heap.size, 5, none⟩ = some (.string p.data) := (AP2.out.cell 5).trans rfl
                  have y0 : wq.cell? ⟨w1.heap.size, 0, none⟩ = some (.int .i64 q.h) := (AQ2.out.cell 0).trans rfl
                  have y1 : wq.cell? ⟨w1.heap.size, 1, none⟩ = some (.int .i64 q.t) := (AQ2.out.cell 1).trans rfl
                  have y2 : wq.cell? ⟨w1.heap.size, 2, none⟩ = some (.string q.last) := (AQ2.out.cell 2).trans rfl
                  have y3 : wq.cell? ⟨w1.heap.size, 3, none⟩ = some (.string q.vals) := (AQ2.out.cell 3).trans rfl
                  have y4 : wq.cell? ⟨w1.heap.size, 4, none⟩ = some (.string q.next) := (AQ2.out.cell 4).trans rfl
                  have y5 : wq.cell? ⟨w1.heap.size, 5, none⟩ = some (.string q.data) := (AQ2.out.cell 5).trans rfl
                  have pz : wo.heap.size < wq.heap.size := AP2.out.lt
                  have qz : w1.heap.size < wq.heap.size := AQ2.out.lt
                  clear AP2 AQ2
                  have HBQ : Hid (Below w.heap.size w wq) := ((Below.refl _ _).alloc (Nat.le_refl _) _).trans (HQB1.out.mono (by omega))
                  skip
                  refine wp_region_below (by kernel_rfl) (by kernel_rfl) ?_
                  repeat (first | go_big_quiet_skip | (go_big_quiet_want; go_big_quiet_op; first | go_big_quiet_on | (apply Exists.intro; refine ⟨fun w1 hC => ?_, ?_⟩; (focus (first | rfl | (go_at_call 42; exact quiet_below hC ((HID _ (by exact (HT.out.below HBQ.out HT.out.pos).below hC (by omega))).out)) | (simp [(bcell hC).1, pz, qz, x0, x1, x2, x3, y0, y1, y2, y3, y4, y5]; done) | (simp [(bcell hC).1, pz, qz, x0, x1, x2, x3, y0, y1, y2, y3, y4, y5]; rfl))); go_big_quiet_on)))
                  refine wpQuiet_nil ?_
                  intro w2 hb2
                  obtain ⟨hc2, hf2, hz2⟩ := bcell hb2
                  go_wp2
                  go_roundw
                  case rel => exact ⟨j + 1 + 1, by omega, by go_num, HQB1.out.trans (hb2.mono (by have h := HQB1.out.size; rw [World.size_alloc w] at h; exact h)), by rw [allTo_succ HP.out, HN.out, HF.out]; rfl⟩
                  case measure => simp [intOf]; omega
    · obtain rfl : k = n := by omega
      have HE : Hid (storeB l syn = (decide ((l.length : Int) ≤ 20) && inB syn 0 l.length)) := storeB_all (by rw [H0.out]; exact HN.out)
      by_cases h20 : k ≤ 20
      · go_wp2_with (go_at_call 43; (with_reducible refine (within_any _ _ _ _).mono ?_); rintro e w' ⟨rfl, rfl⟩)
        go_ret
        exact ⟨by rw [HE.out, H0.out]; simp; omega, HB.out⟩
      · have h20' : 20 < k := by omega
        go_wp2_with fail
        go_ret
        exact ⟨by rw [HE.out, H0.out]; simp; omega, HB.out⟩

set_option maxHeartbeats 4000000 in
theorem sStoreOk_any (A : Option Addr) (n c : Nat) (l : List HeaderD) (syn : Int) (w : World) (hl : RdL headC 6 w w.heap.size A n c l) :
    Calls Tryd.prog 11 #[.agg #[.slice A n c, .int .i64 syn]] w fun e w' => e = .returned (.bool (storeB l syn)) ∧ Below w.heap.size w w' := by
  have hn := hl.le
  have HL := Lib.hid hl
  have H0 := Lib.hid hl.1
  clear hl
  by_cases h20 : 20 < n
  · have HE : Hid (storeB l syn = false) := by show _ = _; unfold storeB; rw [show decide ((l.length : Int) ≤ 20) = false by rw [H0.out]; simp; omega]; simp
    go_enter Tryd.func11, Tryd.ntmps11
    go_wp2_with fail
    go_ret
    exact ⟨by rw [HE.out]; rfl, (Below.refl _ _).alloc (Nat.le_refl _) _⟩
  have h20' : n ≤ 20 := by omega
  cases hin : inB syn 0 n
  · have HE : Hid (storeB l syn = false) := by show _ = _; unfold storeB; rw [H0.out, hin]; simp
    go_enter Tryd.func11, Tryd.ntmps11
    go_wp2_with (go_at_call 37; (with_reducible refine (l1In_any _ _ _ _).mono ?_); rintro e w' ⟨rfl, rfl⟩)
    go_ret
    exact ⟨by rw [HE.out]; rfl, (Below.refl _ _).alloc (Nat.le_refl _) _⟩
  have HIN := Lib.hid hin
  go_enter Tryd.func11, Tryd.ntmps11
  go_wp2_with (go_at_call 37; (with_reducible refine (l1In_any _ _ _ _).mono ?_); rintro e w' ⟨rfl, rfl⟩)
  go_loopw [3] (fun i wr => ∃ k : Nat, k ≤ n ∧ i = .int .i64 k ∧ Below (w.heap.size + 1) (w.alloc (.cells #[.slice A n c, .int .i64 syn] 29)) wr ∧ allTo (headOk l) l k = true) (fun i _ => n - (intOf i).toNat)
  case atStart => exact ⟨0, by omega, rfl, Below.refl _ _, allTo_zero _ _⟩
  case round =>
    obtain ⟨k, hk, rfl, hb, hno⟩ := hrel
    obtain ⟨wo, hwo⟩ : ∃ x, x = wr := ⟨_, rfl⟩
    subst hwo
    have HN := Lib.hid hno; clear hno
    have hz : w.heap.size + 1 ≤ wo.heap.size := by have := hb.size; simpa using this
    have hz1 : w.heap.size < wo.heap.size := by omega
    have A0 : Hid (Blk wo w.heap.size 29 #[.slice A n c, .int .i64 syn]) := Blk.below (heap_alloc_new w _) hb (by omega)
    have s0 : wo.cell? ⟨w.heap.size, 0, none⟩ = some (.slice A n c) := (A0.out.cell 0).trans rfl
    have s1 : wo.cell? ⟨w.heap.size, 1, none⟩ = some (.int .i64 syn) := (A0.out.cell 1).trans rfl
    have HB : Hid (Below w.heap.size w wo) := ((Below.refl _ _).alloc (Nat.le_refl _) _).trans (hb.mono (by omega))
    have HBO := Lib.hid hb; clear hb
    by_cases hkn : k < n
    · have HR := Lib.hid (HL.out.below HB.out (Nat.le_refl _))
      obtain ⟨b, off, p, rfl, hb1, hp, c0, c1, c2, c3, c4, c5⟩ := head_cells HR.out hkn
      have HP := Lib.hid hp; clear hp
      have hbo : b < wo.heap.size := by omega
      have k0 : (0 : Int) ≤ k := by omega
      have k1 : (k : Int) < n := by omega
      cases hq : hdrB p
      · have HF : Hid (storeB l syn = false) := storeB_no (allTo_no HP.out (headOk_no hq))
        go_wp2_with fail
        refine (sHeaderOk_any p _).mono ?_
        rintro e w1 ⟨rfl, hb1'⟩
        have hz2 : wo.heap.size + 1 ≤ w1.heap.size := by have h := hb1'.size; rw [World.size_alloc] at h; exact h
        have HB1 : Hid (Below w.heap.size w w1) := (HB.out.alloc (by omega) _).trans (hb1'.mono (by rw [World.size_alloc]; omega))
        clear hb1'
        go_wp2_with fail
        go_ret
        exact ⟨by rw [HF.out]; rfl, HB1.out⟩
      · have HQ := Lib.hid hq
        by_cases hk0 : k = 0
        · have hkb : ((k : Int) == 0) = true := by subst hk0; rfl
          have hkc : (k : Int) ≤ 0 := by omega
          have HK := Lib.hid hk0
          clear hk0
          go_wp2_with fail
          refine (sHeaderOk_any p _).mono ?_
          rintro e w1 ⟨rfl, hb1'⟩
          have hz2 : wo.heap.size + 1 ≤ w1.heap.size := by have h := hb1'.size; rw [World.size_alloc] at h; exact h
          have HB1 : Hid (Below (w.heap.size + 1) (w.alloc (.cells #[.slice (some ⟨b, off, none⟩) n c, .int .i64 syn] 29)) w1) := (HBO.out.alloc (by omega) _).trans (hb1'.mono (by rw [World.size_alloc]; omega))
          clear hb1'
          go_wp2_with fail
          go_roundw
          case rel => exact ⟨k + 1, by omega, by go_num, HB1.out, by rw [allTo_succ HP.out, HN.out, HK.out, headOk_zero HQ.out]; rfl⟩
          case measure => simp [intOf]; omega
        · obtain ⟨j, rfl⟩ : ∃ j, k = j + 1 := ⟨k - 1, by omega⟩
          clear hk0
          have j1 : j < n := by omega
          obtain ⟨b2, off2, q, he, hb2, hx, e0, e1, e2, e3, e4, e5⟩ := head_cells HR.out j1
          simp only [Option.some.injEq, Addr.mk.injEq, and_true] at he
          obtain ⟨rfl, rfl⟩ := he
          have HX := Lib.hid hx; clear hx
          obtain ⟨_, _, _, _, q0, q1⟩ := hdrB_sizes (headOk_hdr (allTo_get HN.out (by omega) HX.out))
          have hj0 : (0 : Int) ≤ j := by omega
          have hj1 : (j : Int) < n := by omega
          have HID : ∀ wx : World, Hid (Calls Tryd.prog 39 #[.agg #[.int .i64 q.h, .int .i64 q.t, .string q.last, .string q.vals, .string q.next, .string q.data]] wx fun e w' => e = .returned (.string (headIdB q)) ∧ Below wx.heap.size wx w') := fun wx => sHeadId_any q wx
          have hjb : ((j : Int) + 1 == 0) = false := by simp; omega
          have hq8 : Hid (linkB q p = !((p.h != q.h + 1) || (!(p.last.toList == (headIdB q).toList) || (decide (p.t ≤ q.t) || !(p.vals.toList == q.next.toList))))) := rfl
          generalize headIdB q = gq at *
          cases g1 : (p.h != q.h + 1)
          case true =>
            have HF : Hid (storeB l syn = false) := storeB_no (allTo_no HP.out ((headOk_link HQ.out HX.out).trans (by rw [hq8.out]; simp [g1])))
            go_wp2_with fail
            refine (sHeaderOk_any p _).mono ?_
            rintro e w1 ⟨rfl, hb1'⟩
            have hz2 : wo.heap.size + 1 ≤ w1.heap.size := by have h := hb1'.size; rw [World.size_alloc] at h; exact h
            have D1 := HBO.out.alloc (by omega) (.cells #[.int .i64 p.h, .int .i64 p.t, .string p.last, .string p.vals, .string p.next, .string p.data] 34)
            have HB1 : Hid (Below (w.heap.size + 1) (w.alloc (.cells #[.slice (some ⟨b, off, none⟩) n c, .int .i64 syn] 29)) w1) := D1.trans (hb1'.mono (by rw [World.size_alloc]; omega))
            have AP : Hid (Blk w1 wo.heap.size 34 #[.int .i64 p.h, .int .i64 p.t, .string p.last, .string p.vals, .string p.next, .string p.data]) := Blk.below (heap_alloc_new wo _) hb1' (by rw [World.size_alloc]; omega)
            clear D1
            have z0 : w1.cell? ⟨w.heap.size, 0, none⟩ = some (.slice (some ⟨b, off, none⟩) n c) := (HB1.out.cell (p := ⟨w.heap.size, 0, none⟩) (by show w.heap.size < _; omega)).trans (by simp)
            have v0 : w1.cell? ⟨b, off + j * 6, none⟩ = some (.int .i64 q.h) := (hb1'.cell (p := ⟨b, off + j * 6, none⟩) (by show b < _; rw [World.size_alloc]; omega)).trans ((World.cell?_alloc_lt wo _ _ (by show b < _; omega)).trans e0)
            have v1 : w1.cell? ⟨b, off + j * 6 + 1, none⟩ = some (.int .i64 q.t) := (hb1'.cell (p := ⟨b, off + j * 6 + 1, none⟩) (by show b < _; rw [World.size_alloc]; omega)).trans ((World.cell?_alloc_lt wo _ _ (by show b < _; omega)).trans e1)
            have v2 : w1.cell? ⟨b, off + j * 6 + 2, none⟩ = some (.string q.last) := (hb1'.cell (p := ⟨b, off + j * 6 + 2, none⟩) (by show b < _; rw [World.size_alloc]; omega)).trans ((World.cell?_alloc_lt wo _ _ (by show b < _; omega)).trans e2)
            have v3 : w1.cell? ⟨b, off + j * 6 + 3, none⟩ = some (.string q.vals) := (hb1'.cell (p := ⟨b, off + j * 6 + 3, none⟩) (by show b < _; rw [World.size_alloc]; omega)).trans ((World.cell?_alloc_lt wo _ _ (by show b < _; omega)).trans e3)
            have v4 : w1.cell? ⟨b, off + j * 6 + 4, none⟩ = some (.string q.next) := (hb1'.cell (p := ⟨b, off + j * 6 + 4, none⟩) (by show b < _; rw [World.size_alloc]; omega)).trans ((World.cell?_alloc_lt wo _ _ (by show b < _; omega)).trans e4)
            have v5 : w1.cell? ⟨b, off + j * 6 + 5, none⟩ = some (.string q.data) := (hb1'.cell (p := ⟨b, off + j * 6 + 5, none⟩) (by show b < _; rw [World.size_alloc]; omega)).trans ((World.cell?_alloc_lt wo _ _ (by show b < _; omega)).trans e5)
            have hbw : b < w1.heap.size := by omega
            have hww : w.heap.size < w1.heap.size := by omega
            clear hb1'
            have HQB1 : Hid (Below (w.heap.size + 1) (w.alloc (.cells #[.slice (some ⟨b, off, none⟩) n c, .int .i64 syn] 29)) (w1.alloc (.cells #[.int .i64 q.h, .int .i64 q.t, .string q.last, .string q.vals, .string q.next, .string q.data] 34))) := HB1.out.alloc (by omega) _
            have AP2 : Hid (Blk (w1.alloc (.cells #[.int .i64 q.h, .int .i64 q.t, .string q.last, .string q.vals, .string q.next, .string q.data] 34)) wo.heap.size 34 #[.int .i64 p.h, .int .i64 p.t, .string p.last, .string p.vals, .string p.next, .string p.data]) := AP.out.alloc _
            have AQ2 : Hid (Blk (w1.alloc (.cells #[.int .i64 q.h, .int .i64 q.t, .string q.last, .string q.vals, .string q.next, .string q.data] 34)) w1.heap.size 34 #[.int .i64 q.h, .int .i64 q.t, .string q.last, .string q.vals, .string q.next, .string q.data]) := heap_alloc_new w1 _
            go_wp2_with fail
            clear z0 v0 v1 v2 v3 v4 v5 AP HB1
            generalize (w1.alloc (.cells #[.int .i64 q.h, .int .i64 q.t, .string q.last, .string q.vals, .string q.next, .string q.data] 34)) = wq at *
            have x0 : wq.cell? ⟨wo.heap.size, 0, none⟩ = some (.int .i64 p.h) := (AP2.out.cell 0).trans rfl
            have x1 : wq.cell? ⟨wo.heap.size, 1, none⟩ = some (.int .i64 p.t) := (AP2.out.cell 1).trans rfl
            have x2 : wq.cell? ⟨wo.heap.size, 2, none⟩ = some (.string p.last) := (AP2.out.cell 2).trans rfl
            have x3 : wq.cell? ⟨wo.heap.size, 3, none⟩ = some (.string p.vals) := (AP2.out.cell 3).trans rfl
            have x4 : wq.cell? ⟨wo.heap.size, 4, none⟩ = some (.string p.next) := (AP2.out.cell 4).trans rfl
            have x5 : wq.cell? ⟨wo.heap.size, 5, none⟩ = some (.string p.data) := (AP2.out.cell 5).trans rfl
            have y0 : wq.cell? ⟨w1.heap.size, 0, none⟩ = some (.int .i64 q.h) := (AQ2.out.cell 0).trans rfl
            have y1 : wq.cell? ⟨w1.heap.size, 1, none⟩ = some (.int .i64 q.t) := (AQ2.out.cell 1).trans rfl
            have y2 : wq.cell? ⟨w1.heap.size, 2, none⟩ = some (.string q.last) := (AQ2.out.cell 2).trans rfl
            have y3 : wq.cell? ⟨w1.heap.size, 3, none⟩ = some (.string q.vals) := (AQ2.out.cell 3).trans rfl
            have y4 : wq.cell? ⟨w1.heap.size, 4, none⟩ = some (.string q.next) := (AQ2.out.cell 4).trans rfl
            have y5 : wq.cell? ⟨w1.heap.size, 5, none⟩ = some (.string q.data) := (AQ2.out.cell 5).trans rfl
            have pz : wo.heap.size < wq.heap.size := AP2.out.lt
            have qz : w1.heap.size < wq.heap.size := AQ2.out.lt
            clear AP2 AQ2
            have HBQ : Hid (Below w.heap.size w wq) := ((Below.refl _ _).alloc (Nat.le_refl _) _).trans (HQB1.out.mono (by omega))
            skip
            refine wp_region_below (by kernel_rfl) (by kernel_rfl) ?_
            repeat (first | go_big_quiet_skip | (go_big_quiet_want; go_big_quiet_op; first | go_big_quiet_on | (apply Exists.intro; refine ⟨fun w1 hC => ?_, ?_⟩; (focus (first | rfl | (go_at_call 39; exact quiet_below hC ((HID _).out)) | (simp [(bcell hC).1, pz, qz, x0, y0]; done) | (simp [(bcell hC).1, pz, qz, x0, y0]; rfl))); go_big_quiet_on)))
            refine wpQuiet_nil ?_
            intro w2 hb2
            obtain ⟨hc2, hf2, hz2⟩ := bcell hb2
            go_wp2
            go_ret
            exact ⟨by rw [HF.out]; rfl, HBQ.out.trans (hb2.mono HBQ.out.size)⟩
          case false =>
            cases g2 : (p.last.toList == gq.toList)
            case false =>
              have HF : Hid (storeB l syn = false) := storeB_no (allTo_no HP.out ((headOk_link HQ.out HX.out).trans (by rw [hq8.out]; simp [g1, g2])))
              go_wp2_with fail
              refine (sHeaderOk_any p _).mono ?_
              rintro e w1 ⟨rfl, hb1'⟩
              have hz2 : wo.heap.size + 1 ≤ w1.heap.size := by have h := hb1'.size; rw [World.size_alloc] at h; exact h
              have D1 := HBO.out.alloc (by omega) (.cells #[.int .i64 p.h, .int .i64 p.t, .string p.last, .string p.vals, .string p.next, .string p.data] 34)
              have HB1 : Hid (Below (w.heap.size + 1) (w.alloc (.cells #[.slice (some ⟨b, off, none⟩) n c, .int .i64 syn] 29)) w1) := D1.trans (hb1'.mono (by rw [World.size_alloc]; omega))
              have AP : Hid (Blk w1 wo.heap.size 34 #[.int .i64 p.h, .int .i64 p.t, .string p.last, .string p.vals, .string p.next, .string p.data]) := Blk.below (heap_alloc_new wo _) hb1' (by rw [World.size_alloc]; omega)
              clear D1
              have z0 : w1.cell? ⟨w.heap.size, 0, none⟩ = some (.slice (some ⟨b, off, none⟩) n c) := (HB1.out.cell (p := ⟨w.heap.size, 0, none⟩) (by show w.heap.size < _; omega)).trans (by simp)
              have v0 : w1.cell? ⟨b, off + j * 6, none⟩ = some (.int .i64 q.h) := (hb1'.cell (p := ⟨b, off + j * 6, none⟩) (by show b < _; rw [World.size_alloc]; omega)).trans ((World.cell?_alloc_lt wo _ _ (by show b < _; omega)).trans e0)
              have v1 : w1.cell? ⟨b, off + j * 6 + 1, none⟩ = some (.int .i64 q.t) := (hb1'.cell (p := ⟨b, off + j * 6 + 1, none⟩) (by show b < _; rw [World.size_alloc]; omega)).trans ((World.cell?_alloc_lt wo _ _ (by show b < _; omega)).trans e1)
              have v2 : w1.cell? ⟨b, off + j * 6 + 2, none⟩ = some (.string q.last) := (hb1'.cell (p := ⟨b, off + j * 6 + 2, none⟩) (by show b < _; rw [World.size_alloc]; omega)).trans ((World.cell?_alloc_lt wo _ _ (by show b < _; omega)).trans e2)
              have v3 : w1.cell? ⟨b, off + j * 6 + 3, none⟩ = some (.string q.vals) := (hb1'.cell (p := ⟨b, off + j * 6 + 3, none⟩) (by show b < _; rw [World.size_alloc]; omega)).trans ((World.cell?_alloc_lt wo _ _ (by show b < _; omega)).trans e3)
              have v4 : w1.cell? ⟨b, off + j * 6 + 4, none⟩ = some (.string q.next) := (hb1'.cell (p := ⟨b, off + j * 6 + 4, none⟩) (by show b < _; rw [World.size_alloc]; omega)).trans ((World.cell?_alloc_lt wo _ _ (by show b < _; omega)).trans e4)
              have v5 : w1.cell? ⟨b, off + j * 6 + 5, none⟩ = some (.string q.data) := (hb1'.cell (p := ⟨b, off + j * 6 + 5, none⟩) (by show b < _; rw [World.size_alloc]; omega)).trans ((World.cell?_alloc_lt wo _ _ (by show b < _; omega)).trans e5)
              have hbw : b < w1.heap.size := by omega
              have hww : w.heap.size < w1.heap.size := by omega
              clear hb1'
              have HQB1 : Hid (Below (w.heap.size + 1) (w.alloc (.cells #[.slice (some ⟨b, off, none⟩) n c, .int .i64 syn] 29)) (w1.alloc (.cells #[.int .i64 q.h, .int .i64 q.t, .string q.last, .string q.vals, .string q.next, .string q.data] 34))) := HB1.out.alloc (by omega) _
              have AP2 : Hid (Blk (w1.alloc (.cells #[.int .i64 q.h, .int .i64 q.t, .string q.last, .string q.vals, .string q.next, .string q.data] 34)) wo.heap.size 34 #[.int .i64 p.h, .int .i64 p.t, .string p.last, .string p.vals, .string p.next, .string p.data]) := AP.out.alloc _
              have AQ2 : Hid (Blk (w1.alloc (.cells #[.int .i64 q.h, .int .i64 q.t, .string q.last, .string q.vals, .string q.next, .string q.data] 34)) w1.heap.size 34 #[.int .i64 q.h, .int .i64 q.t, .string q.last, .string q.vals, .string q.next, .string q.data]) := heap_alloc_new w1 _
              go_wp2_with fail
              clear z0 v0 v1 v2 v3 v4 v5 AP HB1
              generalize (w1.alloc (.cells #[.int .i64 q.h, .int .i64 q.t, .string q.last, .string q.vals, .string q.next, .string q.data] 34)) = wq at *
              have x0 : wq.cell? ⟨wo.heap.size, 0, none⟩ = some (.int .i64 p.h) := (AP2.out.cell 0).trans rfl
              have x1 : wq.cell? ⟨wo.heap.size, 1, none⟩ = some (.int .i64 p.t) := (AP2.out.cell 1).trans rfl
              have x2 : wq.cell? ⟨wo.heap.size, 2, none⟩ = some (.string p.last) := (AP2.out.cell 2).trans rfl
              have x3 : wq.cell? ⟨wo.heap.size, 3, none⟩ = some (.string p.vals) := (AP2.out.cell 3).trans rfl
              have x4 : wq.cell? ⟨wo.heap.size, 4, none⟩ = some (.string p.next) := (AP2.out.cell 4).trans rfl
              have x5 : wq.cell? ⟨wo.heap.size, 5, none⟩ = some (.string p.data) := (AP2.out.cell 5).trans rfl
              have y0 : wq.cell? ⟨w1.heap.size, 0, none⟩ = some (.int .i64 q.h) := (AQ2.out.cell 0).trans rfl
              have y1 : wq.cell? ⟨w1.heap.size, 1, none⟩ = some (.int .i64 q.t) := (AQ2.out.cell 1).trans rfl
              have y2 : wq.cell? ⟨w1.heap.size, 2, none⟩ = some (.string q.last) := (AQ2.out.cell 2).trans rfl
              have y3 : wq.cell? ⟨w1.heap.size, 3, none⟩ = some (.string q.vals) := (AQ2.out.cell 3).trans rfl
              have y4 : wq.cell? ⟨w1.heap.size, 4, none⟩ = some (.string q.next) := (AQ2.out.cell 4).trans rfl
              have y5 : wq.cell? ⟨w1.heap.size, 5, none⟩ = some (.string q.data) := (AQ2.out.cell 5).trans rfl
              have pz : wo.heap.size < wq.heap.size := AP2.out.lt
              have qz : w1.heap.size < wq.heap.size := AQ2.out.lt
              clear AP2 AQ2
              have HBQ : Hid (Below w.heap.size w wq) := ((Below.refl _ _).alloc (Nat.le_refl _) _).trans (HQB1.out.mono (by omega))
              skip
              refine wp_region_below (by kernel_rfl) (by kernel_rfl) ?_
              repeat (first | go_big_quiet_skip | (go_big_quiet_want; go_big_quiet_op; first | go_big_quiet_on | (apply Exists.intro; refine ⟨fun w1 hC => ?_, ?_⟩; (focus (first | rfl | (go_at_call 39; exact quiet_below hC ((HID _).out)) | (simp [(bcell hC).1, pz, qz, x0, x2, y0, y1, y2, y3, y4, y5]; done) | (simp [(bcell hC).1, pz, qz, x0, x2, y0, y1, y2, y3, y4, y5]; rfl))); go_big_quiet_on)))
              refine wpQuiet_nil ?_
              intro w2 hb2
              obtain ⟨hc2, hf2, hz2⟩ := bcell hb2
              go_wp2
              go_ret
              exact ⟨by rw [HF.out]; rfl, HBQ.out.trans (hb2.mono HBQ.out.size)⟩
            case true =>
              cases g3 : decide (p.t ≤ q.t)
              case true =>
                have HF : Hid (storeB l syn = false) := storeB_no (allTo_no HP.out ((headOk_link HQ.out HX.out).trans (by rw [hq8.out]; simp [g1, g2, g3])))
                go_wp2_with fail
                refine (sHeaderOk_any p _).mono ?_
                rintro e w1 ⟨rfl, hb1'⟩
                have hz2 : wo.heap.size + 1 ≤ w1.heap.size := by have h := hb1'.size; rw [World.size_alloc] at h; exact h
                have D1 := HBO.out.alloc (by omega) (.cells #[.int .i64 p.h, .int .i64 p.t, .string p.last, .string p.vals, .string p.next, .string p.data] 34)
                have HB1 : Hid (Below (w.heap.size + 1) (w.alloc (.cells #[.slice (some ⟨b, off, none⟩) n c, .int .i64 syn] 29)) w1) := D1.trans (hb1'.mono (by rw [World.size_alloc]; omega))
                have AP : Hid (Blk w1 wo.heap.size 34 #[.int .i64 p.h, .int .i64 p.t, .string p.last, .string p.vals, .string p.next, .string p.data]) := Blk.below (heap_alloc_new wo _) hb1' (by rw [World.size_alloc]; omega)
                clear D1
                have z0 : w1.cell? ⟨w.heap.size, 0, none⟩ = some (.slice (some ⟨b, off, none⟩) n c) := (HB1.out.cell (p := ⟨w.heap.size, 0, none⟩) (by show w.heap.size < _; omega)).trans (by simp)
                have v0 : w1.cell? ⟨b, off + j * 6, none⟩ = some (.int .i64 q.h) := (hb1'.cell (p := ⟨b, off + j * 6, none⟩) (by show b < _; rw [World.size_alloc]; omega)).trans ((World.cell?_alloc_lt wo _ _ (by show b < _; omega)).trans e0)
                have v1 : w1.cell? ⟨b, off + j * 6 + 1, none⟩ = some (.int .i64 q.t) := (hb1'.cell (p := ⟨b, off + j * 6 + 1, none⟩) (by show b < _; rw [World.size_alloc]; omega)).trans ((World.cell?_alloc_lt wo _ _ (by show b < _; omega)).trans e1)
                have v2 : w1.cell? ⟨b, off + j * 6 + 2, none⟩ = some (.string q.last) := (hb1'.cell (p := ⟨b, off + j * 6 + 2, none⟩) (by show b < _; rw [World.size_alloc]; omega)).trans ((World.cell?_alloc_lt wo _ _ (by show b < _; omega)).trans e2)
                have v3 : w1.cell? ⟨b, off + j * 6 + 3, none⟩ = some (.string q.vals) := (hb1'.cell (p := ⟨b, off + j * 6 + 3, none⟩) (by show b < _; rw [World.size_alloc]; omega)).trans ((World.cell?_alloc_lt wo _ _ (by show b < _; omega)).trans e3)
                have v4 : w1.cell? ⟨b, off + j * 6 + 4, none⟩ = some (.string q.next) := (hb1'.cell (p := ⟨b, off + j * 6 + 4, none⟩) (by show b < _; rw [World.size_alloc]; omega)).trans ((World.cell?_alloc_lt wo _ _ (by show b < _; omega)).trans e4)
                have v5 : w1.cell? ⟨b, off + j * 6 + 5, none⟩ = some (.string q.data) := (hb1'.cell (p := ⟨b, off + j * 6 + 5, none⟩) (by show b < _; rw [World.size_alloc]; omega)).trans ((World.cell?_alloc_lt wo _ _ (by show b < _; omega)).trans e5)
                have hbw : b < w1.heap.size := by omega
                have hww : w.heap.size < w1.heap.size := by omega
                clear hb1'
                have HQB1 : Hid (Below (w.heap.size + 1) (w.alloc (.cells #[.slice (some ⟨b, off, none⟩) n c, .int .i64 syn] 29)) (w1.alloc (.cells #[.int .i64 q.h, .int .i64 q.t, .string q.last, .string q.vals, .string q.next, .string q.data] 34))) := HB1.out.alloc (by omega) _
                have AP2 : Hid (Blk (w1.alloc (.cells #[.int .i64 q.h, .int .i64 q.t, .string q.last, .string q.vals, .string q.next, .string q.data] 34)) wo.heap.size 34 #[.int .i64 p.h, .int .i64 p.t, .string p.last, .string p.vals, .string p.next, .string p.data]) := AP.out.alloc _
                have AQ2 : Hid (Blk (w1.alloc (.cells #[.int .i64 q.h, .int .i64 q.t, .string q.last, .string q.vals, .string q.next, .string q.data] 34)) w1.heap.size 34 #[.int .i64 q.h, .int .i64 q.t, .string q.last, .string q.vals, .string q.next, .string q.data]) := heap_alloc_new w1 _
                go_wp2_with fail
                clear z0 v0 v1 v2 v3 v4 v5 AP HB1
                generalize (w1.alloc (.cells #[.int .i64 q.h, .int .i64 q.t, .string q.last, .string q.vals, .string q.next, .string q.data] 34)) = wq at *
                have x0 : wq.cell? ⟨wo.heap.size, 0, none⟩ = some (.int .i64 p.h) := (AP2.out.cell 0).trans rfl
                have x1 : wq.cell? ⟨wo.heap.size, 1, none⟩ = some (.int .i64 p.t) := (AP2.out.cell 1).trans rfl
                have x2 : wq.cell? ⟨wo.heap.size, 2, none⟩ = some (.string p.last) := (AP2.out.cell 2).trans rfl
                have x3 : wq.cell? ⟨wo.heap.size, 3, none⟩ = some (.string p.vals) := (AP2.out.cell 3).trans rfl
                have x4 : wq.cell? ⟨wo.heap.size, 4, none⟩ = some (.string p.next) := (AP2.out.cell 4).trans rfl
                have x5 : wq.cell? ⟨wo.heap.size, 5, none⟩ = some (.string p.data) := (AP2.out.cell 5).trans rfl
                have y0 : wq.cell? ⟨w1.heap.size, 0, none⟩ = some (.int .i64 q.h) := (AQ2.out.cell 0).trans rfl
                have y1 : wq.cell? ⟨w1.heap.size, 1, none⟩ = some (.int .i64 q.t) := (AQ2.out.cell 1).trans rfl
                have y2 : wq.cell? ⟨w1.heap.size, 2, none⟩ = some (.string q.last) := (AQ2.out.cell 2).trans rfl
                have y3 : wq.cell? ⟨w1.heap.size, 3, none⟩ = some (.string q.vals) := (AQ2.out.cell 3).trans rfl
                have y4 : wq.cell? ⟨w1.heap.size, 4, none⟩ = some (.string q.next) := (AQ2.out.cell 4).trans rfl
                have y5 : wq.cell? ⟨w1.heap.size, 5, none⟩ = some (.string q.data) := (AQ2.out.cell 5).trans rfl
                have pz : wo.heap.size < wq.heap.size := AP2.out.lt
                have qz : w1.heap.size < wq.heap.size := AQ2.out.lt
                clear AP2 AQ2
                have HBQ : Hid (Below w.heap.size w wq) := ((Below.refl _ _).alloc (Nat.le_refl _) _).trans (HQB1.out.mono (by omega))
                skip
                refine wp_region_below (by kernel_rfl) (by kernel_rfl) ?_
                repeat (first | go_big_quiet_skip | (go_big_quiet_want; go_big_quiet_op; first | go_big_quiet_on | (apply Exists.intro; refine ⟨fun w1 hC => ?_, ?_⟩; (focus (first | rfl | (go_at_call 39; exact quiet_below hC ((HID _).out)) | (simp [(bcell hC).1, pz, qz, x0, x1, x2, y0, y1, y2, y3, y4, y5]; done) | (simp [(bcell hC).1, pz, qz, x0, x1, x2, y0, y1, y2, y3, y4, y5]; rfl))); go_big_quiet_on)))
                refine wpQuiet_nil ?_
                intro w2 hb2
                obtain ⟨hc2, hf2, hz2⟩ := bcell hb2
                go_wp2
                go_ret
                exact ⟨by rw [HF.out]; rfl, HBQ.out.trans (hb2.mono HBQ.out.size)⟩
              case false =>
                cases g4 : (p.vals.toList == q.next.toList)
                case false =>
                  have HF : Hid (storeB l syn = false) := storeB_no (allTo_no HP.out ((headOk_link HQ.out HX.out).trans (by rw [hq8.out]; simp [g1, g2, g3, g4])))
                  go_wp2_with fail
                  refine (sHeaderOk_any p _).mono ?_
                  rintro e w1 ⟨rfl, hb1'⟩
                  have hz2 : wo.heap.size + 1 ≤ w1.heap.size := by have h := hb1'.size; rw [World.size_alloc] at h; exact h
                  have D1 := HBO.out.alloc (by omega) (.cells #[.int .i64 p.h, .int .i64 p.t, .string p.last, .string p.vals, .string p.next, .string p.data] 34)
                  have HB1 : Hid (Below (w.heap.size + 1) (w.alloc (.cells #[.slice (some ⟨b, off, none⟩) n c, .int .i64 syn] 29)) w1) := D1.trans (hb1'.mono (by rw [World.size_alloc]; omega))
                  have AP : Hid (Blk w1 wo.heap.size 34 #[.int .i64 p.h, .int .i64 p.t, .string p.last, .string p.vals, .string p.next, .string p.data]) := Blk.below (heap_alloc_new wo _) hb1' (by rw [World.size_alloc]; omega)
                  clear D1
                  have z0 : w1.cell? ⟨w.heap.size, 0, none⟩ = some (.slice (some ⟨b, off, none⟩) n c) := (HB1.out.cell (p := ⟨w.heap.size, 0, none⟩) (by show w.heap.size < _; omega)).trans (by simp)
                  have v0 : w1.cell? ⟨b, off + j * 6, none⟩ = some (.int .i64 q.h) := (hb1'.cell (p := ⟨b, off + j * 6, none⟩) (by show b < _; rw [World.size_alloc]; omega)).trans ((World.cell?_alloc_lt wo _ _ (by show b < _; omega)).trans e0)
                  have v1 : w1.cell? ⟨b, off + j * 6 + 1, none⟩ = some (.int .i64 q.t) := (hb1'.cell (p := ⟨b, off + j * 6 + 1, none⟩) (by show b < _; rw [World.size_alloc]; omega)).trans ((World.cell?_alloc_lt wo _ _ (by show b < _; omega)).trans e1)
                  have v2 : w1.cell? ⟨b, off + j * 6 + 2, none⟩ = some (.string q.last) := (hb1'.cell (p := ⟨b, off + j * 6 + 2, none⟩) (by show b < _; rw [World.size_alloc]; omega)).trans ((World.cell?_alloc_lt wo _ _ (by show b < _; omega)).trans e2)
                  have v3 : w1.cell? ⟨b, off + j * 6 + 3, none⟩ = some (.string q.vals) := (hb1'.cell (p := ⟨b, off + j * 6 + 3, none⟩) (by show b < _; rw [World.size_alloc]; omega)).trans ((World.cell?_alloc_lt wo _ _ (by show b < _; omega)).trans e3)
                  have v4 : w1.cell? ⟨b, off + j * 6 + 4, none⟩ = some (.string q.next) := (hb1'.cell (p := ⟨b, off + j * 6 + 4, none⟩) (by show b < _; rw [World.size_alloc]; omega)).trans ((World.cell?_alloc_lt wo _ _ (by show b < _; omega)).trans e4)
                  have v5 : w1.cell? ⟨b, off + j * 6 + 5, none⟩ = some (.string q.data) := (hb1'.cell (p := ⟨b, off + j * 6 + 5, none⟩) (by show b < _; rw [World.size_alloc]; omega)).trans ((World.cell?_alloc_lt wo _ _ (by show b < _; omega)).trans e5)
                  have hbw : b < w1.heap.size := by omega
                  have hww : w.heap.size < w1.heap.size := by omega
                  clear hb1'
                  have HQB1 : Hid (Below (w.heap.size + 1) (w.alloc (.cells #[.slice (some ⟨b, off, none⟩) n c, .int .i64 syn] 29)) (w1.alloc (.cells #[.int .i64 q.h, .int .i64 q.t, .string q.last, .string q.vals, .string q.next, .string q.data] 34))) := HB1.out.alloc (by omega) _
                  have AP2 : Hid (Blk (w1.alloc (.cells #[.int .i64 q.h, .int .i64 q.t, .string q.last, .string q.vals, .string q.next, .string q.data] 34)) wo.heap.size 34 #[.int .i64 p.h, .int .i64 p.t, .string p.last, .string p.vals, .string p.next, .string p.data]) := AP.out.alloc _
                  have AQ2 : Hid (Blk (w1.alloc (.cells #[.int .i64 q.h, .int .i64 q.t, .string q.last, .string q.vals, .string q.next, .string q.data] 34)) w1.heap.size 34 #[.int .i64 q.h, .int .i64 q.t, .string q.last, .string q.vals, .string q.next, .string q.data]) := heap_alloc_new w1 _
                  go_wp2_with fail
                  clear z0 v0 v1 v2 v3 v4 v5 AP HB1
                  generalize (w1.alloc (.cells #[.int .i64 q.h, .int .i64 q.t, .string q.last, .string q.vals, .string q.next, .string q.data] 34)) = wq at *
                  have x0 : wq.cell? ⟨wo.heap.size, 0, none⟩ = some (.int .i64 p.h) := (AP2.out.cell 0).trans rfl
                  have x1 : wq.cell? ⟨wo.heap.size, 1, none⟩ = some (.int .i64 p.t) := (AP2.out.cell 1).trans rfl
                  have x2 : wq.cell? ⟨wo.heap.size, 2, none⟩ = some (.string p.last) := (AP2.out.cell 2).trans rfl
                  have x3 : wq.cell? ⟨wo.heap.size, 3, none⟩ = some (.string p.vals) := (AP2.out.cell 3).trans rfl
                  have x4 : wq.cell? ⟨wo.heap.size, 4, none⟩ = some (.string p.next) := (AP2.out.cell 4).trans rfl
                  have x5 : wq.cell? ⟨wo.heap.size, 5, none⟩ = some (.string p.data) := (AP2.out.cell 5).trans rfl
                  have y0 : wq.cell? ⟨w1.heap.size, 0, none⟩ = some (.int .i64 q.h) := (AQ2.out.cell 0).trans rfl
                  have y1 : wq.cell? ⟨w1.heap.size, 1, none⟩ = some (.int .i64 q.t) := (AQ2.out.cell 1).trans rfl
                  have y2 : wq.cell? ⟨w1.heap.size, 2, none⟩ = some (.string q.last) := (AQ2.out.cell 2).trans rfl
                  have y3 : wq.cell? ⟨w1.heap.size, 3, none⟩ = some (.string q.vals) := (AQ2.out.cell 3).trans rfl
                  have y4 : wq.cell? ⟨w1.heap.size, 4, none⟩ = some (.string q.next) := (AQ2.out.cell 4).trans rfl
                  have y5 : wq.cell? ⟨w1.heap.size, 5, none⟩ = some (.string q.data) := (AQ2.out.cell 5).trans rfl
                  have pz : wo.heap.size < wq.heap.size := AP2.out.lt
                  have qz : w1.heap.size < wq.heap.size := AQ2.out.lt
                  clear AP2 AQ2
                  have HBQ : Hid (Below w.heap.size w wq) := ((Below.refl _ _).alloc (Nat.le_refl _) _).trans (HQB1.out.mono (by omega))
                  skip
                  refine wp_region_below (by kernel_rfl) (by kernel_rfl) ?_
                  repeat (first | go_big_quiet_skip | (go_big_quiet_want; go_big_quiet_op; first | go_big_quiet_on | (apply Exists.intro; refine ⟨fun w1 hC => ?_, ?_⟩; (focus (first | rfl | (go_at_call 39; exact quiet_below hC ((HID _).out)) | (simp [(bcell hC).1, pz, qz, x0, x1, x2, x3, y0, y1, y2, y3, y4, y5]; done) | (simp [(bcell hC).1, pz, qz, x0, x1, x2, x3, y0, y1, y2, y3, y4, y5]; rfl))); go_big_quiet_on)))
                  refine wpQuiet_nil ?_
                  intro w2 hb2
                  obtain ⟨hc2, hf2, hz2⟩ := bcell hb2
                  go_wp2
                  go_ret
                  exact ⟨by rw [HF.out]; rfl, HBQ.out.trans (hb2.mono HBQ.out.size)⟩
                case true =>
                  have HF : Hid (headOk l (j + 1) p = true) := (headOk_link HQ.out HX.out).trans (by rw [hq8.out]; simp [g1, g2, g3, g4])
                  go_wp2_with fail
                  refine (sHeaderOk_any p _).mono ?_
                  rintro e w1 ⟨rfl, hb1'⟩
                  have hz2 : wo.heap.size + 1 ≤ w1.heap.size := by have h := hb1'.size; rw [World.size_alloc] at h; exact h
                  have D1 := HBO.out.alloc (by omega) (.cells #[.int .i64 p.h, .int .i64 p.t, .string p.last, .string p.vals, .string p.next, .string p.data] 34)
                  have HB1 : Hid (Below (w.heap.size + 1) (w.alloc (.cells #[.slice (some ⟨b, off, none⟩) n c, .int .i64 syn] 29)) w1) := D1.trans (hb1'.mono (by rw [World.size_alloc]; omega))
                  have AP : Hid (Blk w1 wo.heap.size 34 #[.int .i64 p.h, .int .i64 p.t, .string p.last, .string p.vals, .string p.next, .string p.data]) := Blk.below (heap_alloc_new wo _) hb1' (by rw [World.size_alloc]; omega)
                  clear D1
                  have z0 : w1.cell? ⟨w.heap.size, 0, none⟩ = some (.slice (some ⟨b, off, none⟩) n c) := (HB1.out.cell (p := ⟨w.heap.size, 0, none⟩) (by show w.heap.size < _; omega)).trans (by simp)
                  have v0 : w1.cell? ⟨b, off + j * 6, none⟩ = some (.int .i64 q.h) := (hb1'.cell (p := ⟨b, off + j * 6, none⟩) (by show b < _; rw [World.size_alloc]; omega)).trans ((World.cell?_alloc_lt wo _ _ (by show b < _; omega)).trans e0)
                  have v1 : w1.cell? ⟨b, off + j * 6 + 1, none⟩ = some (.int .i64 q.t) := (hb1'.cell (p := ⟨b, off + j * 6 + 1, none⟩) (by show b < _; rw [World.size_alloc]; omega)).trans ((World.cell?_alloc_lt wo _ _ (by show b < _; omega)).trans e1)
                  have v2 : w1.cell? ⟨b, off + j * 6 + 2, none⟩ = some (.string q.last) := (hb1'.cell (p := ⟨b, off + j * 6 + 2, none⟩) (by show b < _; rw [World.size_alloc]; omega)).trans ((World.cell?_alloc_lt wo _ _ (by show b < _; omega)).trans e2)
                  have v3 : w1.cell? ⟨b, off + j * 6 + 3, none⟩ = some (.string q.vals) := (hb1'.cell (p := ⟨b, off + j * 6 + 3, none⟩) (by show b < _; rw [World.size_alloc]; omega)).trans ((World.cell?_alloc_lt wo _ _ (by show b < _; omega)).trans e3)
                  have v4 : w1.cell? ⟨b, off + j * 6 + 4, none⟩ = some (.string q.next) := (hb1'.cell (p := ⟨b, off + j * 6 + 4, none⟩) (by show b < _; rw [World.size_alloc]; omega)).trans ((World.cell?_alloc_lt wo _ _ (by show b < _; omega)).trans e4)
                  have v5 : w1.cell? ⟨b, off + j * 6 + 5, none⟩ = some (.string q.data) := (hb1'.cell (p := ⟨b, off + j * 6 + 5, none⟩) (by show b < _; rw [World.size_alloc]; omega)).trans ((World.cell?_alloc_lt wo _ _ (by show b < _; omega)).trans e5)
                  have hbw : b < w1.heap.size := by omega
                  have hww : w.heap.size < w1.heap.size := by omega
                  clear hb1'
                  have HQB1 : Hid (Below (w.heap.size + 1) (w.alloc (.cells #[.slice (some ⟨b, off, none⟩) n c, .int .i64 syn] 29)) (w1.alloc (.cells #[.int .i64 q.h, .int .i64 q.t, .string q.last, .string q.vals, .string q.next, .string q.data] 34))) := HB1.out.alloc (by omega) _
                  have AP2 : Hid (Blk (w1.alloc (.cells #[.int .i64 q.h, .int .i64 q.t, .string q.last, .string q.vals, .string q.next, .string q.data] 34)) wo.heap.size 34 #[.int .i64 p.h, .int .i64 p.t, .string p.last, .string p.vals, .string p.next, .string p.data]) := AP.out.alloc _
                  have AQ2 : Hid (Blk (w1.alloc (.cells #[.int .i64 q.h, .int .i64 q.t, .string q.last, .string q.vals, .string q.next, .string q.data] 34)) w1.heap.size 34 #[.int .i64 q.h, .int .i64 q.t, .string q.last, .string q.vals, .string q.next, .string q.data]) := heap_alloc_new w1 _
                  go_wp2_with fail
                  clear z0 v0 v1 v2 v3 v4 v5 AP HB1
                  generalize (w1.alloc (.cells #[.int .i64 q.h, .int .i64 q.t, .string q.last, .string q.vals, .string q.next, .string q.data] 34)) = wq at *
                  have x0 : wq.cell? ⟨wo.heap.size, 0, none⟩ = some (.int .i64 p.h) := (AP2.out.cell 0).trans rfl
                  have x1 : wq.cell? ⟨wo.heap.size, 1, none⟩ = some (.int .i64 p.t) := (AP2.out.cell 1).trans rfl
                  have x2 : wq.cell? ⟨wo.heap.size, 2, none⟩ = some (.string p.last) := (AP2.out.cell 2).trans rfl
                  have x3 : wq.cell? ⟨wo.heap.size, 3, none⟩ = some (.string p.vals) := (AP2.out.cell 3).trans rfl
                  have x4 : wq.cell? ⟨wo.heap.size, 4, none⟩ = some (.string p.next) := (AP2.out.cell 4).trans rfl
                  have x5 : wq.cell? ⟨wo.heap.size, 5, none⟩ = some (.string p.data) := (AP2.out.cell 5).trans rfl
                  have y0 : wq.cell? ⟨w1.heap.size, 0, none⟩ = some (.int .i64 q.h) := (AQ2.out.cell 0).trans rfl
                  have y1 : wq.cell? ⟨w1.heap.size, 1, none⟩ = some (.int .i64 q.t) := (AQ2.out.cell 1).trans rfl
                  have y2 : wq.cell? ⟨w1.heap.size, 2, none⟩ = some (.string q.last) := (AQ2.out.cell 2).trans rfl
                  have y3 : wq.cell? ⟨w1.heap.size, 3, none⟩ = some (.string q.vals) := (AQ2.out.cell 3).trans rfl
                  have y4 : wq.cell? ⟨w1.heap.size, 4, none⟩ = some (.string q.next) := (AQ2.out.cell 4).trans rfl
                  have y5 : wq.cell? ⟨w1.heap.size, 5, none⟩ = some (.string q.data) := (AQ2.out.cell 5).trans rfl
                  have pz : wo.heap.size < wq.heap.size := AP2.out.lt
                  have qz : w1.heap.size < wq.heap.size := AQ2.out.lt
                  clear AP2 AQ2
                  have HBQ : Hid (Below w.heap.size w wq) := ((Below.refl _ _).alloc (Nat.le_refl _) _).trans (HQB1.out.mono (by omega))
                  skip
                  refine wp_region_below (by kernel_rfl) (by kernel_rfl) ?_
                  repeat (first | go_big_quiet_skip | (go_big_quiet_want; go_big_quiet_op; first | go_big_quiet_on | (apply Exists.intro; refine ⟨fun w1 hC => ?_, ?_⟩; (focus (first | rfl | (go_at_call 39; exact quiet_below hC ((HID _).out)) | (simp [(bcell hC).1, pz, qz, x0, x1, x2, x3, y0, y1, y2, y3, y4, y5]; done) | (simp [(bcell hC).1, pz, qz, x0, x1, x2, x3, y0, y1, y2, y3, y4, y5]; rfl))); go_big_quiet_on)))
                  refine wpQuiet_nil ?_
                  intro w2 hb2
                  obtain ⟨hc2, hf2, hz2⟩ := bcell hb2
                  go_wp2
                  go_roundw
                  case rel => exact ⟨j + 1 + 1, by omega, by go_num, HQB1.out.trans (hb2.mono (by have h := HQB1.out.size; rw [World.size_alloc w] at h; exact h)), by rw [allTo_succ HP.out, HN.out, HF.out]; rfl⟩
                  case measure => simp [intOf]; omega
    · obtain rfl : k = n := by omega
      have HE : Hid (storeB l syn = true) := (storeB_all (by rw [H0.out]; exact HN.out)).trans (by rw [H0.out, HIN.out]; simp; omega)
      go_wp2_with fail
      go_ret
      exact ⟨by rw [HE.out]; rfl, HB.out⟩
end Go.Proofs.YtjdknaipmboekaaDoor
