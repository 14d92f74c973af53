/- FnSigner: what a signer refuses changes nothing. No conditions. (written by wip/fnsigner.py) -/
import Derived.Test.YteifmlmmfghjjaaDrawSign2
import Derived.Test.YteifmlmmfghjjaaSignPure
import Derived.Test.YteifmlmmfghjjaaSignAsk
import Derived.Test.YteifmlmmfghjjaaSignSync
import Derived.Test.YteifmlmmfghjjaaFnL
namespace Go.Proofs.Yteifmlmmfghjjaa
open Go.ChangeShapes Go.WideShapes Go.ChangeAt Go.RowKit Go.Joins

theorem sSignerOk_b (s : SignS) (A : Option Addr) (n c : Nat) (l : List VoteD) (b : Bool) (w : World) (hl : RdL voteC 5 w w.heap.size A n c l) (hb : signB s l = b) :
    Calls Try.prog 9 #[.agg #[.int .i64 s.val, .int .i64 s.dh, .int .i64 s.dr, .int .i64 s.ds, .string s.di, .int .i64 s.mh, .int .i64 s.mr, .int .i64 s.ms, .string s.mi, .bool s.pend, .slice A n c]] w fun e w' => e = .returned (.bool b) ∧ Below w.heap.size w w' := by
  have h := sSignerOk_any s A n c l w hl
  rw [hb] at h
  exact h

set_option maxRecDepth 100000 in
set_option maxHeartbeats 8000000 in
theorem FnSigner_walk (A : Option Addr) (n c : Nat) (l : List UInt8) (w : World) (hl : RdL octC 1 w w.heap.size A n c l) :
    Calls Try.prog 7 #[.slice A n c] w fun e w' => e = .returned (.bool true) ∧ Below w.heap.size w w' := by
  have HL := Lib.hid hl
  clear hl
  by_cases hn : (1048576 : Int) < n
  · have hnb : decide ((1048576 : Int) < n) = true := decide_eq_true hn
    go_enter Try.func7, Try.ntmps7
    go_wp2_with (go_at_call 23; (with_reducible refine (big_any A n c _).mono ?_); rintro e w' ⟨rfl, rfl⟩)
    go_ret
    exact ⟨rfl, Below.refl _ _⟩
  have hnb : decide ((1048576 : Int) < n) = false := decide_eq_false hn
  go_enter Try.func7, Try.ntmps7
  go_wp2_with (go_at_call 23; (with_reducible refine (big_any A n c _).mono ?_); rintro e w' ⟨rfl, rfl⟩)
  clear hnb
  refine (DrawSignAsk_any A n c l _ HL.out (by omega)).mono ?_
  rintro e w1 ⟨s, ln, B, d, v, rfl, ho, hll, hb⟩
  have B0 := Lib.hid (Below.refl w.heap.size w)
  have hs1 := hb.size
  have B1 := Lib.hid (B0.out.trans (hb.mono B0.out.size))
  clear hb B0
  have Os1 := Lib.hid ho
  clear ho
  obtain ⟨y, hy⟩ : ∃ y, y = askS s ln v := ⟨_, rfl⟩
  obtain ⟨yl, hyl⟩ : ∃ y, y = askL s ln v := ⟨_, rfl⟩
  obtain ⟨k, hk⟩ : ∃ y, y = askK s ln v := ⟨_, rfl⟩
  have HY := Lib.hid hy
  have HYL := Lib.hid hyl
  have HK := Lib.hid hk
  clear hy hyl hk
  go_upto_region 4 with fail
  obtain ⟨w2, hw2⟩ : ∃ q, q = w1.alloc (.cells #[.int .i64 s.val, .int .i64 s.dh, .int .i64 s.dr, .int .i64 s.ds, .string s.di, .int .i64 s.mh, .int .i64 s.mr, .int .i64 s.ms, .string s.mi, .bool s.pend, .slice B ln.length d] 32) := ⟨_, rfl⟩
  rw [← hw2]
  have hb : Below w1.heap.size w1 w2 := by rw [hw2]; exact (Below.refl _ _).alloc (Nat.le_refl _) _
  have hxx : Blk w2 w1.heap.size 32 #[.int .i64 s.val, .int .i64 s.dh, .int .i64 s.dr, .int .i64 s.ds, .string s.di, .int .i64 s.mh, .int .i64 s.mr, .int .i64 s.ms, .string s.mi, .bool s.pend, .slice B ln.length d] := by rw [hw2]; exact heap_alloc_new w1 _
  have HZ2 : Hid (w2.heap.size = w1.heap.size + 1) := Lib.hid (by rw [hw2]; simp)
  clear hw2
  have hs2 := hb.size
  have B2 := Lib.hid (B1.out.trans (hb.mono B1.out.size))
  have Os2 := Lib.hid (Os1.out.below hb (by omega))
  clear hb B1 Os1
  have Xs2 := Lib.hid hxx
  clear hxx
  have hlXs := Xs2.out.lt
  obtain ⟨w3, hw3⟩ : ∃ q, q = w2.alloc (.cells #[.int .i64 v.h, .int .i64 v.r, .int .i64 v.st, .string v.id, .int .i64 v.v] 44) := ⟨_, rfl⟩
  rw [← hw3]
  have hb : Below w2.heap.size w2 w3 := by rw [hw3]; exact (Below.refl _ _).alloc (Nat.le_refl _) _
  have hxx : Blk w3 w2.heap.size 44 #[.int .i64 v.h, .int .i64 v.r, .int .i64 v.st, .string v.id, .int .i64 v.v] := by rw [hw3]; exact heap_alloc_new w2 _
  have HZ3 : Hid (w3.heap.size = w2.heap.size + 1) := Lib.hid (by rw [hw3]; simp)
  clear hw3
  rw [HZ2.out] at hxx
  have hs3 := hb.size
  have B3 := Lib.hid (B2.out.trans (hb.mono B2.out.size))
  have Os3 := Lib.hid (Os2.out.below hb (by omega))
  have Xs3 := Lib.hid (Xs2.out.below hb Xs2.out.lt)
  clear hb B2 Os2 Xs2
  have Xv3 := Lib.hid hxx
  clear hxx
  have hlXv := Xv3.out.lt
  have ceXs := Xs3.out.cell
  have lbXs := Xs3.out.lt
  have ceXv := Xv3.out.cell
  have lbXv := Xv3.out.lt
  go_wp2_with fail
  refine (SignAsk_any s B d ln v _ ((Os3.out.rd voteC_len).more (by omega))).mono ?_
  rintro e w4 ⟨Ax, cx, he, ho, hb⟩
  rw [← HY.out, ← HYL.out, ← HK.out] at he
  rw [← HYL.out] at ho
  subst he
  clear ceXs lbXs ceXv lbXv
  have hs4 := hb.size
  have B4 := Lib.hid (B3.out.trans (hb.mono B3.out.size))
  have Os4 := Lib.hid (Os3.out.below hb (by omega))
  have Xs4 := Lib.hid (Xs3.out.below hb Xs3.out.lt)
  have Xv4 := Lib.hid (Xv3.out.below hb Xv3.out.lt)
  clear hb B3 Os3 Xs3 Xv3
  have Ox4 := Lib.hid ho
  clear ho
  go_upto_region 5 with fail
  obtain ⟨w5, hw5⟩ : ∃ q, q = w4.alloc (.cells #[.int .i64 y.val, .int .i64 y.dh, .int .i64 y.dr, .int .i64 y.ds, .string y.di, .int .i64 y.mh, .int .i64 y.mr, .int .i64 y.ms, .string y.mi, .bool y.pend, .slice Ax yl.length cx] 32) := ⟨_, rfl⟩
  rw [← hw5]
  have hb : Below w4.heap.size w4 w5 := by rw [hw5]; exact (Below.refl _ _).alloc (Nat.le_refl _) _
  have hxx : Blk w5 w4.heap.size 32 #[.int .i64 y.val, .int .i64 y.dh, .int .i64 y.dr, .int .i64 y.ds, .string y.di, .int .i64 y.mh, .int .i64 y.mr, .int .i64 y.ms, .string y.mi, .bool y.pend, .slice Ax yl.length cx] := by rw [hw5]; exact heap_alloc_new w4 _
  have HZ5 : Hid (w5.heap.size = w4.heap.size + 1) := Lib.hid (by rw [hw5]; simp)
  clear hw5
  have hs5 := hb.size
  have B5 := Lib.hid (B4.out.trans (hb.mono B4.out.size))
  have Os5 := Lib.hid (Os4.out.below hb (by omega))
  have Xs5 := Lib.hid (Xs4.out.below hb Xs4.out.lt)
  have Xv5 := Lib.hid (Xv4.out.below hb Xv4.out.lt)
  have Ox5 := Lib.hid (Ox4.out.below hb (by omega))
  clear hb B4 Os4 Xs4 Xv4 Ox4
  have Xx5 := Lib.hid hxx
  clear hxx
  have hlXx := Xx5.out.lt
  have ceXs := Xs5.out.cell
  have lbXs := Xs5.out.lt
  have ceXv := Xv5.out.cell
  have lbXv := Xv5.out.lt
  go_wp2_with fail
  refine (sSignAsk_any s B d ln v _ ((Os5.out.rd voteC_len).more (by omega))).mono ?_
  rintro e w6 ⟨Az, cz, he, ho, hb⟩
  rw [← HY.out, ← HYL.out, ← HK.out] at he
  rw [← HYL.out] at ho
  subst he
  clear ceXs lbXs ceXv lbXv
  have hs6 := hb.size
  have B6 := Lib.hid (B5.out.trans (hb.mono B5.out.size))
  have Os6 := Lib.hid (Os5.out.below hb (by omega))
  have Xs6 := Lib.hid (Xs5.out.below hb Xs5.out.lt)
  have Xv6 := Lib.hid (Xv5.out.below hb Xv5.out.lt)
  have Ox6 := Lib.hid (Ox5.out.below hb (by omega))
  have Xx6 := Lib.hid (Xx5.out.below hb Xx5.out.lt)
  clear hb B5 Os5 Xs5 Xv5 Ox5 Xx5
  have Oz6 := Lib.hid ho
  clear ho
  go_upto_region 6 with fail
  obtain ⟨w7, hw7⟩ : ∃ q, q = w6.alloc (.cells #[.int .i64 y.val, .int .i64 y.dh, .int .i64 y.dr, .int .i64 y.ds, .string y.di, .int .i64 y.mh, .int .i64 y.mr, .int .i64 y.ms, .string y.mi, .bool y.pend, .slice Az yl.length cz] 32) := ⟨_, rfl⟩
  rw [← hw7]
  have hb : Below w6.heap.size w6 w7 := by rw [hw7]; exact (Below.refl _ _).alloc (Nat.le_refl _) _
  have hxx : Blk w7 w6.heap.size 32 #[.int .i64 y.val, .int .i64 y.dh, .int .i64 y.dr, .int .i64 y.ds, .string y.di, .int .i64 y.mh, .int .i64 y.mr, .int .i64 y.ms, .string y.mi, .bool y.pend, .slice Az yl.length cz] := by rw [hw7]; exact heap_alloc_new w6 _
  have HZ7 : Hid (w7.heap.size = w6.heap.size + 1) := Lib.hid (by rw [hw7]; simp)
  clear hw7
  have hs7 := hb.size
  have B7 := Lib.hid (B6.out.trans (hb.mono B6.out.size))
  have Os7 := Lib.hid (Os6.out.below hb (by omega))
  have Xs7 := Lib.hid (Xs6.out.below hb Xs6.out.lt)
  have Xv7 := Lib.hid (Xv6.out.below hb Xv6.out.lt)
  have Ox7 := Lib.hid (Ox6.out.below hb (by omega))
  have Xx7 := Lib.hid (Xx6.out.below hb Xx6.out.lt)
  have Oz7 := Lib.hid (Oz6.out.below hb (by omega))
  clear hb B6 Os6 Xs6 Xv6 Ox6 Xx6 Oz6
  have Xz7 := Lib.hid hxx
  clear hxx
  have hlXz := Xz7.out.lt
  clear Oz7
  clear Xz7
  go_wp2_with fail
  refine (DrawMaySign_any A n c l _ ((HL.out.below B7.out (Nat.le_refl _)).more B7.out.size) (by omega)).mono ?_
  rintro e w8 ⟨gh, gr, gs, gi, v2, rfl, hb⟩
  have hs8 := hb.size
  have B8 := Lib.hid (B7.out.trans (hb.mono B7.out.size))
  have Os8 := Lib.hid (Os7.out.below hb (by omega))
  have Xs8 := Lib.hid (Xs7.out.below hb Xs7.out.lt)
  have Xv8 := Lib.hid (Xv7.out.below hb Xv7.out.lt)
  have Ox8 := Lib.hid (Ox7.out.below hb (by omega))
  have Xx8 := Lib.hid (Xx7.out.below hb Xx7.out.lt)
  clear hb B7 Os7 Xs7 Xv7 Ox7 Xx7
  go_upto_region 7 with fail
  obtain ⟨w9, hw9⟩ : ∃ q, q = w8.alloc (.cells #[.int .i64 gh, .int .i64 gr, .int .i64 gs, .string gi] 29) := ⟨_, rfl⟩
  rw [← hw9]
  have hb : Below w8.heap.size w8 w9 := by rw [hw9]; exact (Below.refl _ _).alloc (Nat.le_refl _) _
  have hxx : Blk w9 w8.heap.size 29 #[.int .i64 gh, .int .i64 gr, .int .i64 gs, .string gi] := by rw [hw9]; exact heap_alloc_new w8 _
  have HZ9 : Hid (w9.heap.size = w8.heap.size + 1) := Lib.hid (by rw [hw9]; simp)
  clear hw9
  have hs9 := hb.size
  have B9 := Lib.hid (B8.out.trans (hb.mono B8.out.size))
  have Os9 := Lib.hid (Os8.out.below hb (by omega))
  have Xs9 := Lib.hid (Xs8.out.below hb Xs8.out.lt)
  have Xv9 := Lib.hid (Xv8.out.below hb Xv8.out.lt)
  have Ox9 := Lib.hid (Ox8.out.below hb (by omega))
  have Xx9 := Lib.hid (Xx8.out.below hb Xx8.out.lt)
  clear hb B8 Os8 Xs8 Xv8 Ox8 Xx8
  have Xg9 := Lib.hid hxx
  clear hxx
  have hlXg := Xg9.out.lt
  obtain ⟨w10, hw10⟩ : ∃ q, q = w9.alloc (.cells #[.int .i64 v2.h, .int .i64 v2.r, .int .i64 v2.st, .string v2.id, .int .i64 v2.v] 44) := ⟨_, rfl⟩
  rw [← hw10]
  have hb : Below w9.heap.size w9 w10 := by rw [hw10]; exact (Below.refl _ _).alloc (Nat.le_refl _) _
  have hxx : Blk w10 w9.heap.size 44 #[.int .i64 v2.h, .int .i64 v2.r, .int .i64 v2.st, .string v2.id, .int .i64 v2.v] := by rw [hw10]; exact heap_alloc_new w9 _
  have HZ10 : Hid (w10.heap.size = w9.heap.size + 1) := Lib.hid (by rw [hw10]; simp)
  clear hw10
  rw [HZ9.out] at hxx
  have hs10 := hb.size
  have B10 := Lib.hid (B9.out.trans (hb.mono B9.out.size))
  have Os10 := Lib.hid (Os9.out.below hb (by omega))
  have Xs10 := Lib.hid (Xs9.out.below hb Xs9.out.lt)
  have Xv10 := Lib.hid (Xv9.out.below hb Xv9.out.lt)
  have Ox10 := Lib.hid (Ox9.out.below hb (by omega))
  have Xx10 := Lib.hid (Xx9.out.below hb Xx9.out.lt)
  have Xg10 := Lib.hid (Xg9.out.below hb Xg9.out.lt)
  clear hb B9 Os9 Xs9 Xv9 Ox9 Xx9 Xg9
  have Xw10 := Lib.hid hxx
  clear hxx
  have hlXw := Xw10.out.lt
  have ceXg := Xg10.out.cell
  have lbXg := Xg10.out.lt
  have ceXw := Xw10.out.cell
  have lbXw := Xw10.out.lt
  refine wp_region_below (by kernel_rfl) (by kernel_rfl) ?_
  repeat (first | go_big_quiet_skip | (go_big_quiet_want; go_big_quiet_op; first | go_big_quiet_on | (apply Exists.intro; refine ⟨fun w1 hC => ?_, ?_⟩; (focus (first | rfl | (go_at_call 26; exact quiet_below hC (MaySign_any _ _ _ _ _ _ _ _ _ _)) | (go_at_call 27; exact quiet_below hC (sMaySign_any _ _ _ _ _ _ _ _ _ _)) | (simp [(bcell hC).1, ceXg, lbXg, ceXw, lbXw]; done) | (simp [(bcell hC).1, ceXg, lbXg, ceXw, lbXw]; rfl))); go_big_quiet_on)))
  refine wpQuiet_nil ?_
  intro w2 hb2
  obtain ⟨hc2, hf2, hz2⟩ := bcell hb2
  clear ceXg lbXg ceXw lbXw
  clear Xg10
  clear Xw10
  obtain ⟨w11, hw7⟩ : ∃ q, q = w2 := ⟨_, rfl⟩
  rw [← hw7] at hb2 ⊢
  have hb := hb2
  clear hw7 hb2 hc2 hf2 hz2
  have hs11 := hb.size
  have B11 := Lib.hid (B10.out.trans (hb.mono B10.out.size))
  have Os11 := Lib.hid (Os10.out.below hb (by omega))
  have Xs11 := Lib.hid (Xs10.out.below hb Xs10.out.lt)
  have Xv11 := Lib.hid (Xv10.out.below hb Xv10.out.lt)
  have Ox11 := Lib.hid (Ox10.out.below hb (by omega))
  have Xx11 := Lib.hid (Xx10.out.below hb Xx10.out.lt)
  clear hb B10 Os10 Xs10 Xv10 Ox10 Xx10
  cases hB : signB s ln
  · have ceXs := Xs11.out.cell
    have lbXs := Xs11.out.lt
    have HB := Lib.hid hB
    clear hB
    have hv0 : y.val = 0 := by rw [HY.out]; exact ask_no HB.out
    go_wp2_with fail
    refine (sSignerOk_b s B ln.length d ln false _ ((Os11.out.rd voteC_len).more (by omega)) HB.out).mono ?_
    rintro e w12 ⟨rfl, hb⟩
    clear ceXs lbXs
    have hs12 := hb.size
    have B12 := Lib.hid (B11.out.trans (hb.mono B11.out.size))
    have Os12 := Lib.hid (Os11.out.below hb (by omega))
    have Xs12 := Lib.hid (Xs11.out.below hb Xs11.out.lt)
    have Xv12 := Lib.hid (Xv11.out.below hb Xv11.out.lt)
    have Ox12 := Lib.hid (Ox11.out.below hb (by omega))
    have Xx12 := Lib.hid (Xx11.out.below hb Xx11.out.lt)
    clear hb B11 Os11 Xs11 Xv11 Ox11 Xx11
    have ceXx := Xx12.out.cell
    have lbXx := Xx12.out.lt
    go_wp2_with fail
    go_ret
    exact ⟨rfl, B12.out⟩
  · have HB := Lib.hid hB
    clear hB
    have ceXs := Xs11.out.cell
    have lbXs := Xs11.out.lt
    go_wp2_with fail
    refine (sSignerOk_b s B ln.length d ln true _ ((Os11.out.rd voteC_len).more (by omega)) HB.out).mono ?_
    rintro e w12 ⟨rfl, hb⟩
    clear ceXs lbXs
    have hs12 := hb.size
    have B12 := Lib.hid (B11.out.trans (hb.mono B11.out.size))
    have Os12 := Lib.hid (Os11.out.below hb (by omega))
    have Xs12 := Lib.hid (Xs11.out.below hb Xs11.out.lt)
    have Xv12 := Lib.hid (Xv11.out.below hb Xv11.out.lt)
    have Ox12 := Lib.hid (Ox11.out.below hb (by omega))
    have Xx12 := Lib.hid (Xx11.out.below hb Xx11.out.lt)
    clear hb B11 Os11 Xs11 Xv11 Ox11 Xx11
    have ceXs := Xs12.out.cell
    have lbXs := Xs12.out.lt
    go_wp2_with fail
    refine (SignSync_any s B d ln _ ((Os12.out.rd voteC_len).more (by omega))).mono ?_
    obtain ⟨hq1, hq2⟩ := sync_ok HB.out
    rw [hq2]
    obtain ⟨u, hu⟩ : ∃ u, u = syncS s ln := ⟨_, rfl⟩
    obtain ⟨ul, hul⟩ : ∃ u, u = syncL s ln := ⟨_, rfl⟩
    rw [← hu, ← hul]
    rw [← hu, ← hul] at hq1
    have HQ := Lib.hid hq1
    clear hq1 hq2 hu hul
    rintro e w13 ⟨Au, cu, rfl, ho, hb⟩
    clear ceXs lbXs
    have hs13 := hb.size
    have B13 := Lib.hid (B12.out.trans (hb.mono B12.out.size))
    have Os13 := Lib.hid (Os12.out.below hb (by omega))
    have Xs13 := Lib.hid (Xs12.out.below hb Xs12.out.lt)
    have Xv13 := Lib.hid (Xv12.out.below hb Xv12.out.lt)
    have Ox13 := Lib.hid (Ox12.out.below hb (by omega))
    have Xx13 := Lib.hid (Xx12.out.below hb Xx12.out.lt)
    clear hb B12 Os12 Xs12 Xv12 Ox12 Xx12
    have Ou13 := Lib.hid ho
    clear ho
    go_upto_region 12 with fail
    obtain ⟨w14, hw14⟩ : ∃ q, q = w13.alloc (.cells #[.int .i64 u.val, .int .i64 u.dh, .int .i64 u.dr, .int .i64 u.ds, .string u.di, .int .i64 u.mh, .int .i64 u.mr, .int .i64 u.ms, .string u.mi, .bool u.pend, .slice Au ul.length cu] 32) := ⟨_, rfl⟩
    rw [← hw14]
    have hb : Below w13.heap.size w13 w14 := by rw [hw14]; exact (Below.refl _ _).alloc (Nat.le_refl _) _
    have hxx : Blk w14 w13.heap.size 32 #[.int .i64 u.val, .int .i64 u.dh, .int .i64 u.dr, .int .i64 u.ds, .string u.di, .int .i64 u.mh, .int .i64 u.mr, .int .i64 u.ms, .string u.mi, .bool u.pend, .slice Au ul.length cu] := by rw [hw14]; exact heap_alloc_new w13 _
    have HZ14 : Hid (w14.heap.size = w13.heap.size + 1) := Lib.hid (by rw [hw14]; simp)
    clear hw14
    have hs14 := hb.size
    have B14 := Lib.hid (B13.out.trans (hb.mono B13.out.size))
    have Os14 := Lib.hid (Os13.out.below hb (by omega))
    have Xs14 := Lib.hid (Xs13.out.below hb Xs13.out.lt)
    have Xv14 := Lib.hid (Xv13.out.below hb Xv13.out.lt)
    have Ox14 := Lib.hid (Ox13.out.below hb (by omega))
    have Xx14 := Lib.hid (Xx13.out.below hb Xx13.out.lt)
    have Ou14 := Lib.hid (Ou13.out.below hb (by omega))
    clear hb B13 Os13 Xs13 Xv13 Ox13 Xx13 Ou13
    have Xu14 := Lib.hid hxx
    clear hxx
    have hlXu := Xu14.out.lt
    have hcase := ask_cases v HB.out
    rw [← HK.out, ← HY.out, ← HYL.out] at hcase
    clear HK HY HYL
    rcases hcase with ⟨rfl, rfl, hs⟩ | ⟨hk, rfl, hs⟩
    · have HX := Lib.hid hs
      clear hs
      have ceXx := Xx14.out.cell
      have lbXx := Xx14.out.lt
      have ceXu := Xu14.out.cell
      have lbXu := Xu14.out.lt
      have ceXs := Xs14.out.cell
      have lbXs := Xs14.out.lt
      try dsimp only at ceXx
      go_wp2_with fail
      refine (sSignerOk_b _ Ax yl.length cx yl true _ ((Ox14.out.rd voteC_len).more (by omega)) HX.out).mono ?_
      rintro e w15 ⟨rfl, hb⟩
      clear ceXx lbXx ceXu lbXu ceXs lbXs
      have hs15 := hb.size
      have B15 := Lib.hid (B14.out.trans (hb.mono B14.out.size))
      have Os15 := Lib.hid (Os14.out.below hb (by omega))
      have Xs15 := Lib.hid (Xs14.out.below hb Xs14.out.lt)
      have Xv15 := Lib.hid (Xv14.out.below hb Xv14.out.lt)
      have Ox15 := Lib.hid (Ox14.out.below hb (by omega))
      have Xx15 := Lib.hid (Xx14.out.below hb Xx14.out.lt)
      have Ou15 := Lib.hid (Ou14.out.below hb (by omega))
      have Xu15 := Lib.hid (Xu14.out.below hb Xu14.out.lt)
      clear hb B14 Os14 Xs14 Xv14 Ox14 Xx14 Ou14 Xu14
      have ceXx := Xx15.out.cell
      have lbXx := Xx15.out.lt
      have ceXu := Xu15.out.cell
      have lbXu := Xu15.out.lt
      have ceXs := Xs15.out.cell
      have lbXs := Xs15.out.lt
      try dsimp only at ceXx
      go_wp2_with fail
      refine (sSignerOk_b _ Au ul.length cu ul true _ ((Ou15.out.rd voteC_len).more (by omega)) HQ.out).mono ?_
      rintro e w16 ⟨rfl, hb⟩
      clear ceXx lbXx ceXu lbXu ceXs lbXs
      have hs16 := hb.size
      have B16 := Lib.hid (B15.out.trans (hb.mono B15.out.size))
      have Os16 := Lib.hid (Os15.out.below hb (by omega))
      have Xs16 := Lib.hid (Xs15.out.below hb Xs15.out.lt)
      have Xv16 := Lib.hid (Xv15.out.below hb Xv15.out.lt)
      have Ox16 := Lib.hid (Ox15.out.below hb (by omega))
      have Xx16 := Lib.hid (Xx15.out.below hb Xx15.out.lt)
      have Ou16 := Lib.hid (Ou15.out.below hb (by omega))
      have Xu16 := Lib.hid (Xu15.out.below hb Xu15.out.lt)
      clear hb B15 Os15 Xs15 Xv15 Ox15 Xx15 Ou15 Xu15
      have ceXx := Xx16.out.cell
      have lbXx := Xx16.out.lt
      have ceXu := Xu16.out.cell
      have lbXu := Xu16.out.lt
      have ceXs := Xs16.out.cell
      have lbXs := Xs16.out.lt
      try dsimp only at ceXx
      go_wp2_with fail
      go_ret
      exact ⟨by simp, B16.out⟩
    · have HX := Lib.hid hs
      clear hs
      have ceXx := Xx14.out.cell
      have lbXx := Xx14.out.lt
      have ceXu := Xu14.out.cell
      have lbXu := Xu14.out.lt
      have ceXs := Xs14.out.cell
      have lbXs := Xs14.out.lt
      go_wp2_with fail
      refine (sSignerOk_b _ Ax yl.length cx yl true _ ((Ox14.out.rd voteC_len).more (by omega)) HX.out).mono ?_
      rintro e w15 ⟨rfl, hb⟩
      clear ceXx lbXx ceXu lbXu ceXs lbXs
      have hs15 := hb.size
      have B15 := Lib.hid (B14.out.trans (hb.mono B14.out.size))
      have Os15 := Lib.hid (Os14.out.below hb (by omega))
      have Xs15 := Lib.hid (Xs14.out.below hb Xs14.out.lt)
      have Xv15 := Lib.hid (Xv14.out.below hb Xv14.out.lt)
      have Ox15 := Lib.hid (Ox14.out.below hb (by omega))
      have Xx15 := Lib.hid (Xx14.out.below hb Xx14.out.lt)
      have Ou15 := Lib.hid (Ou14.out.below hb (by omega))
      have Xu15 := Lib.hid (Xu14.out.below hb Xu14.out.lt)
      clear hb B14 Os14 Xs14 Xv14 Ox14 Xx14 Ou14 Xu14
      have ceXx := Xx15.out.cell
      have lbXx := Xx15.out.lt
      have ceXu := Xu15.out.cell
      have lbXu := Xu15.out.lt
      have ceXs := Xs15.out.cell
      have lbXs := Xs15.out.lt
      go_wp2_with fail
      refine (sSignerOk_b _ Au ul.length cu ul true _ ((Ou15.out.rd voteC_len).more (by omega)) HQ.out).mono ?_
      rintro e w16 ⟨rfl, hb⟩
      clear ceXx lbXx ceXu lbXu ceXs lbXs
      have hs16 := hb.size
      have B16 := Lib.hid (B15.out.trans (hb.mono B15.out.size))
      have Os16 := Lib.hid (Os15.out.below hb (by omega))
      have Xs16 := Lib.hid (Xs15.out.below hb Xs15.out.lt)
      have Xv16 := Lib.hid (Xv15.out.below hb Xv15.out.lt)
      have Ox16 := Lib.hid (Ox15.out.below hb (by omega))
      have Xx16 := Lib.hid (Xx15.out.below hb Xx15.out.lt)
      have Ou16 := Lib.hid (Ou15.out.below hb (by omega))
      have Xu16 := Lib.hid (Xu15.out.below hb Xu15.out.lt)
      clear hb B15 Os15 Xs15 Xv15 Ox15 Xx15 Ou15 Xu15
      have ceXx := Xx16.out.cell
      have lbXx := Xx16.out.lt
      have ceXu := Xu16.out.cell
      have lbXu := Xu16.out.lt
      have ceXs := Xs16.out.cell
      have lbXs := Xs16.out.lt
      go_wp2_with fail
      go_ret
      exact ⟨by simp, B16.out⟩

set_option maxRecDepth 100000 in
theorem FnSigner_lifted (os : Os) (started : os.Started) (H : Type) (enc : TypeId × Value → H) :
    ReturnsInHanded {} Try.checked os 7 .any (Rows.fnSignerSpec.pre6 enc Try.prog Try.f7 Rows.fnSignerRow.domain false) (Rows.fnSignerSpec.post enc Try.prog Try.f7 false true false false) := by
  refine returnsInHanded_of_change (C := Try.checked) own started (by kernel_rfl) Try.func7
    (ChangeSpec.witness6 (enc := enc) (C := Try.checked) false ⟨#[], #[.slice none 0 0], []⟩ 8 (by kernel_rfl) (by kernel_rfl) (by kernel_rfl) (by kernel_rfl)) ?_
  intro W base args ds gs before hval0 hW hcnd _
  have hval : ∀ (j : Nat) t v, Try.f7.params[j]? = some t → args[j]? = some v → Value.okWide Try.prog W .any base t v := hval0
  have hW' := hW
  obtain ⟨p, q, hA0, hV, rfl, hfz, hnd⟩ := hW
  have hA : DataW.TrodAll enc Try.prog W 0 (fun _ => true) true Try.f7.params.toList args.toList ds p := hA0
  rw [Try.params7] at hA hval
  obtain ⟨v0, vs0, d0, ds0, p0, q0, hargs, rfl, rfl, h0, r0⟩ := trodAll_cons hA
  obtain ⟨rfl, rfl, rfl⟩ := trodAll_nil r0
  obtain rfl : args = #[v0] := by cases args; simp_all
  obtain ⟨A, n, c, rfl, l, hl⟩ := open_code (hval 0 47 v0 rfl rfl) h0
  refine (FnSigner_walk A n c l W hl).mono fun e W' ⟨he, hb⟩ => ?_
  subst he
  refine ⟨_, rfl, law_post (f := Try.f7) (tb := 4) rfl Try.underlying4 rfl (by kernel_rfl) (fun gs hg => by subst hg; rfl) (fun gs hg => by subst hg; rfl) (fun gs hg => by subst hg; rfl) hW' hb⟩

theorem FnSigner_holds : Rows.FnSignerSaid :=
  OpenClaim.holds_of_wide 7 Try.f7 rfl rfl rfl rfl rfl rfl rfl ⟨rfl, rfl, rfl, rfl, rfl⟩ rfl rfl rfl rfl rfl (by kernel_rfl) Try.func7 (by kernel_rfl)
    (of_decide_eq_true (by kernel_rfl)) (by unfold Func.isWrapper; first | (rw [if_pos (by decide +kernel)]; kernel_rfl) | (rw [if_neg (by decide +kernel)]; exact ⟨rfl, rfl⟩))
    (fun os started H enc _ => FnSigner_lifted os started H enc)
#print axioms FnSigner_holds
end Go.Proofs.Yteifmlmmfghjjaa
