/- FnStore: a store stays right by all that is done to it. No conditions but the card's: the table of the hash is as the program's text lays it. (written by wip/fnstore.py) -/
import Derived.Test.YtjdknaipmboekaaDoorDrawStore2
import Derived.Test.YtjdknaipmboekaaDoorStorePure
import Derived.Test.YtjdknaipmboekaaDoorCard
import Derived.Test.YtjdknaipmboekaaDoorFnL
namespace Go.Proofs.YtjdknaipmboekaaDoor
open Go.ChangeShapes Go.WideShapes Go.ChangeAt Go.RowKit Go.Joins

theorem sStoreOk_b (A : Option Addr) (n c : Nat) (l : List HeaderD) (y : Int) (b : Bool) (w : World) (hl : RdL headC 6 w w.heap.size A n c l) (hb : storeB l y = b) :
    Calls Tryd.prog 11 #[.agg #[.slice A n c, .int .i64 y]] w fun e w' => e = .returned (.bool b) ∧ Below w.heap.size w w' := by
  have h := sStoreOk_any A n c l y w hl
  rw [hb] at h; exact h

set_option maxRecDepth 100000 in
set_option maxHeartbeats 8000000 in
theorem FnStore_walk (A : Option Addr) (n c : Nat) (l : List UInt8) (w : World) (hl : RdL octC 1 w w.heap.size A n c l) (ht : Tab w) :
    Calls Tryd.prog 9 #[.slice A n c] w fun e w' => e = .returned (.bool true) ∧ Below w.heap.size w w' := by
  have HL := Lib.hid hl
  have HT := Lib.hid ht
  have htp := ht.pos
  clear hl ht
  by_cases hn : (1048576 : Int) < n
  · have hnb : decide ((1048576 : Int) < n) = true := decide_eq_true hn
    go_enter Tryd.func9, Tryd.ntmps9
    go_wp2_with (go_at_call 30; (with_reducible refine (big_any A n c _).mono ?_); rintro e w' ⟨rfl, rfl⟩)
    go_ret
    exact ⟨rfl, Below.refl _ _⟩
  have hnb : decide ((1048576 : Int) < n) = false := decide_eq_false hn
  go_enter Tryd.func9, Tryd.ntmps9
  go_wp2_with (go_at_call 30; (with_reducible refine (big_any A n c _).mono ?_); rintro e w' ⟨rfl, rfl⟩)
  clear hnb
  have B0 := Lib.hid (Below.refl w.heap.size w)
  refine (DrawStoreAdd_any A n c l _ HL.out (by omega)).mono ?_
  rintro e w1 ⟨ys, ls, As, cs, p, rfl, ho, hls, hb⟩
  have hs1 := hb.size
  have B1 := Lib.hid (B0.out.trans (hb.mono B0.out.size))
  clear hb B0
  have Os1 := Lib.hid ho
  clear ho
  go_upto_region 4 with fail
  obtain ⟨w2, hw2⟩ : ∃ q, q = w1.alloc (.cells #[.slice As ls.length cs, .int .i64 ys] 29) := ⟨_, rfl⟩
  rw [← hw2]
  have hb : Below w1.heap.size w1 w2 := by rw [hw2]; exact (Below.refl _ _).alloc (Nat.le_refl _) _
  have hxx : Blk w2 w1.heap.size 29 #[.slice As ls.length cs, .int .i64 ys] := by rw [hw2]; exact heap_alloc_new w1 _
  have HZ2 : Hid (w2.heap.size = w1.heap.size + 1) := Lib.hid (by rw [hw2]; simp)
  clear hw2
  have hs2 := hb.size
  have B2 := Lib.hid (B1.out.trans (hb.mono B1.out.size))
  have Os2 := Lib.hid (Os1.out.below hb (by omega))
  clear hb B1 Os1
  have Xs2 := Lib.hid hxx
  clear hxx
  have hlXs := Xs2.out.lt
  obtain ⟨w3, hw3⟩ : ∃ q, q = w2.alloc (.cells #[.int .i64 p.h, .int .i64 p.t, .string p.last, .string p.vals, .string p.next, .string p.data] 34) := ⟨_, rfl⟩
  rw [← hw3]
  have hb : Below w2.heap.size w2 w3 := by rw [hw3]; exact (Below.refl _ _).alloc (Nat.le_refl _) _
  have hxx : Blk w3 w2.heap.size 34 #[.int .i64 p.h, .int .i64 p.t, .string p.last, .string p.vals, .string p.next, .string p.data] := by rw [hw3]; exact heap_alloc_new w2 _
  have HZ3 : Hid (w3.heap.size = w2.heap.size + 1) := Lib.hid (by rw [hw3]; simp)
  clear hw3
  rw [HZ2.out] at hxx
  have hs3 := hb.size
  have B3 := Lib.hid (B2.out.trans (hb.mono B2.out.size))
  have Os3 := Lib.hid (Os2.out.below hb (by omega))
  have Xs3 := Lib.hid (Xs2.out.below hb Xs2.out.lt)
  clear hb B2 Os2 Xs2
  have Xh3 := Lib.hid hxx
  clear hxx
  have hlXh := Xh3.out.lt
  have ceXs := Xs3.out.cell
  have lbXs := Xs3.out.lt
  have ceXh := Xh3.out.cell
  have lbXh := Xh3.out.lt
  as_aux_lemma =>
  go_wp2_with fail
  refine (StoreAdd_any ys As cs ls p _ ((Os3.out.rd headC_len).more (by omega)) (HT.out.below B3.out htp)).mono ?_
  rintro e w4 ⟨Ax, cx, rfl, ho, hb⟩
  obtain ⟨lx, hlx⟩ : ∃ q, q = addL ls ys p := ⟨_, rfl⟩
  obtain ⟨yx, hyx⟩ : ∃ q, q = addY ls ys p := ⟨_, rfl⟩
  obtain ⟨bx, hbx⟩ : ∃ q, q = addB ls ys p := ⟨_, rfl⟩
  rw [← hlx] at ho
  rw [← hlx, ← hyx, ← hbx]
  have HLX := Lib.hid hlx
  have HYX := Lib.hid hyx
  have HBX := Lib.hid hbx
  clear hlx hyx hbx
  clear ceXs lbXs ceXh lbXh
  have hs4 := hb.size
  have B4 := Lib.hid (B3.out.trans (hb.mono B3.out.size))
  have Os4 := Lib.hid (Os3.out.below hb (by omega))
  have Xs4 := Lib.hid (Xs3.out.below hb Xs3.out.lt)
  have Xh4 := Lib.hid (Xh3.out.below hb Xh3.out.lt)
  clear hb B3 Os3 Xs3 Xh3
  have Ox4 := Lib.hid ho
  clear ho
  go_upto_region 5 with fail
  obtain ⟨w5, hw5⟩ : ∃ q, q = w4.alloc (.cells #[.slice Ax lx.length cx, .int .i64 yx] 29) := ⟨_, rfl⟩
  rw [← hw5]
  have hb : Below w4.heap.size w4 w5 := by rw [hw5]; exact (Below.refl _ _).alloc (Nat.le_refl _) _
  have hxx : Blk w5 w4.heap.size 29 #[.slice Ax lx.length cx, .int .i64 yx] := by rw [hw5]; exact heap_alloc_new w4 _
  have HZ5 : Hid (w5.heap.size = w4.heap.size + 1) := Lib.hid (by rw [hw5]; simp)
  clear hw5
  have hs5 := hb.size
  have B5 := Lib.hid (B4.out.trans (hb.mono B4.out.size))
  have Os5 := Lib.hid (Os4.out.below hb (by omega))
  have Xs5 := Lib.hid (Xs4.out.below hb Xs4.out.lt)
  have Xh5 := Lib.hid (Xh4.out.below hb Xh4.out.lt)
  have Ox5 := Lib.hid (Ox4.out.below hb (by omega))
  clear hb B4 Os4 Xs4 Xh4 Ox4
  have Xx5 := Lib.hid hxx
  clear hxx
  have hlXx := Xx5.out.lt
  have ceXs := Xs5.out.cell
  have lbXs := Xs5.out.lt
  have ceXh := Xh5.out.cell
  have lbXh := Xh5.out.lt
  as_aux_lemma =>
  go_wp2_with fail
  refine (sStoreAdd_any ys As cs ls p _ ((Os5.out.rd headC_len).more (by omega))).mono ?_
  rintro e w6 ⟨Ad, cd, rfl, ho, hb⟩
  rw [← HLX.out, ← HYX.out, ← HBX.out]
  clear ho
  clear ceXs lbXs ceXh lbXh
  have hs6 := hb.size
  have B6 := Lib.hid (B5.out.trans (hb.mono B5.out.size))
  have Os6 := Lib.hid (Os5.out.below hb (by omega))
  have Xs6 := Lib.hid (Xs5.out.below hb Xs5.out.lt)
  have Xh6 := Lib.hid (Xh5.out.below hb Xh5.out.lt)
  have Ox6 := Lib.hid (Ox5.out.below hb (by omega))
  have Xx6 := Lib.hid (Xx5.out.below hb Xx5.out.lt)
  clear hb B5 Os5 Xs5 Xh5 Ox5 Xx5
  go_upto_region 6 with fail
  obtain ⟨w7, hw7⟩ : ∃ q, q = w6.alloc (.cells #[.slice Ad lx.length cd, .int .i64 yx] 29) := ⟨_, rfl⟩
  rw [← hw7]
  have hb : Below w6.heap.size w6 w7 := by rw [hw7]; exact (Below.refl _ _).alloc (Nat.le_refl _) _
  have hxx : Blk w7 w6.heap.size 29 #[.slice Ad lx.length cd, .int .i64 yx] := by rw [hw7]; exact heap_alloc_new w6 _
  have HZ7 : Hid (w7.heap.size = w6.heap.size + 1) := Lib.hid (by rw [hw7]; simp)
  clear hw7
  have hs7 := hb.size
  have B7 := Lib.hid (B6.out.trans (hb.mono B6.out.size))
  have Os7 := Lib.hid (Os6.out.below hb (by omega))
  have Xs7 := Lib.hid (Xs6.out.below hb Xs6.out.lt)
  have Xh7 := Lib.hid (Xh6.out.below hb Xh6.out.lt)
  have Ox7 := Lib.hid (Ox6.out.below hb (by omega))
  have Xx7 := Lib.hid (Xx6.out.below hb Xx6.out.lt)
  clear hb B6 Os6 Xs6 Xh6 Ox6 Xx6
  have Xd7 := Lib.hid hxx
  clear hxx
  have hlXd := Xd7.out.lt
  clear Xd7
  as_aux_lemma =>
  go_wp2_with fail
  refine (DrawStorePrune_any A n c l _ ((HL.out.below B7.out (Nat.le_refl _)).more B7.out.size) (by omega)).mono ?_
  rintro e w8 ⟨yp, lp, Ap, cp, kp, rfl, ho, hlp, hb⟩
  have hs8 := hb.size
  have B8 := Lib.hid (B7.out.trans (hb.mono B7.out.size))
  have Os8 := Lib.hid (Os7.out.below hb (by omega))
  have Xs8 := Lib.hid (Xs7.out.below hb Xs7.out.lt)
  have Xh8 := Lib.hid (Xh7.out.below hb Xh7.out.lt)
  have Ox8 := Lib.hid (Ox7.out.below hb (by omega))
  have Xx8 := Lib.hid (Xx7.out.below hb Xx7.out.lt)
  clear hb B7 Os7 Xs7 Xh7 Ox7 Xx7
  have Op8 := Lib.hid ho
  clear ho
  go_upto_region 7 with fail
  obtain ⟨w9, hw9⟩ : ∃ q, q = w8.alloc (.cells #[.slice Ap lp.length cp, .int .i64 yp] 29) := ⟨_, rfl⟩
  rw [← hw9]
  have hb : Below w8.heap.size w8 w9 := by rw [hw9]; exact (Below.refl _ _).alloc (Nat.le_refl _) _
  have hxx : Blk w9 w8.heap.size 29 #[.slice Ap lp.length cp, .int .i64 yp] := by rw [hw9]; exact heap_alloc_new w8 _
  have HZ9 : Hid (w9.heap.size = w8.heap.size + 1) := Lib.hid (by rw [hw9]; simp)
  clear hw9
  have hs9 := hb.size
  have B9 := Lib.hid (B8.out.trans (hb.mono B8.out.size))
  have Os9 := Lib.hid (Os8.out.below hb (by omega))
  have Xs9 := Lib.hid (Xs8.out.below hb Xs8.out.lt)
  have Xh9 := Lib.hid (Xh8.out.below hb Xh8.out.lt)
  have Ox9 := Lib.hid (Ox8.out.below hb (by omega))
  have Xx9 := Lib.hid (Xx8.out.below hb Xx8.out.lt)
  have Op9 := Lib.hid (Op8.out.below hb (by omega))
  clear hb B8 Os8 Xs8 Xh8 Ox8 Xx8 Op8
  have Xp9 := Lib.hid hxx
  clear hxx
  have hlXp := Xp9.out.lt
  have ceXp := Xp9.out.cell
  have lbXp := Xp9.out.lt
  as_aux_lemma =>
  go_wp2_with fail
  refine (StorePrune_any yp Ap cp lp kp _ ((Op9.out.rd headC_len).more (by omega)) (HT.out.below B9.out htp)).mono ?_
  rintro e w10 ⟨Ay, cy, rfl, ho, hb⟩
  obtain ⟨ly, hly⟩ : ∃ q, q = pruneL lp yp kp := ⟨_, rfl⟩
  obtain ⟨yy, hyy⟩ : ∃ q, q = pruneY lp yp kp := ⟨_, rfl⟩
  obtain ⟨by', hby'⟩ : ∃ q, q = pruneB lp yp kp := ⟨_, rfl⟩
  rw [← hly] at ho
  rw [← hly, ← hyy, ← hby']
  have HLY := Lib.hid hly
  have HYY := Lib.hid hyy
  have HBY' := Lib.hid hby'
  clear hly hyy hby'
  clear ceXp lbXp
  have hs10 := hb.size
  have B10 := Lib.hid (B9.out.trans (hb.mono B9.out.size))
  have Os10 := Lib.hid (Os9.out.below hb (by omega))
  have Xs10 := Lib.hid (Xs9.out.below hb Xs9.out.lt)
  have Xh10 := Lib.hid (Xh9.out.below hb Xh9.out.lt)
  have Ox10 := Lib.hid (Ox9.out.below hb (by omega))
  have Xx10 := Lib.hid (Xx9.out.below hb Xx9.out.lt)
  have Op10 := Lib.hid (Op9.out.below hb (by omega))
  have Xp10 := Lib.hid (Xp9.out.below hb Xp9.out.lt)
  clear hb B9 Os9 Xs9 Xh9 Ox9 Xx9 Op9 Xp9
  have Oy10 := Lib.hid ho
  clear ho
  go_upto_region 8 with fail
  obtain ⟨w11, hw11⟩ : ∃ q, q = w10.alloc (.cells #[.slice Ay ly.length cy, .int .i64 yy] 29) := ⟨_, rfl⟩
  rw [← hw11]
  have hb : Below w10.heap.size w10 w11 := by rw [hw11]; exact (Below.refl _ _).alloc (Nat.le_refl _) _
  have hxx : Blk w11 w10.heap.size 29 #[.slice Ay ly.length cy, .int .i64 yy] := by rw [hw11]; exact heap_alloc_new w10 _
  have HZ11 : Hid (w11.heap.size = w10.heap.size + 1) := Lib.hid (by rw [hw11]; simp)
  clear hw11
  have hs11 := hb.size
  have B11 := Lib.hid (B10.out.trans (hb.mono B10.out.size))
  have Os11 := Lib.hid (Os10.out.below hb (by omega))
  have Xs11 := Lib.hid (Xs10.out.below hb Xs10.out.lt)
  have Xh11 := Lib.hid (Xh10.out.below hb Xh10.out.lt)
  have Ox11 := Lib.hid (Ox10.out.below hb (by omega))
  have Xx11 := Lib.hid (Xx10.out.below hb Xx10.out.lt)
  have Op11 := Lib.hid (Op10.out.below hb (by omega))
  have Xp11 := Lib.hid (Xp10.out.below hb Xp10.out.lt)
  have Oy11 := Lib.hid (Oy10.out.below hb (by omega))
  clear hb B10 Os10 Xs10 Xh10 Ox10 Xx10 Op10 Xp10 Oy10
  have Xy11 := Lib.hid hxx
  clear hxx
  have hlXy := Xy11.out.lt
  have ceXp := Xp11.out.cell
  have lbXp := Xp11.out.lt
  as_aux_lemma =>
  go_wp2_with fail
  refine (sStorePrune_any yp Ap cp lp kp _ ((Op11.out.rd headC_len).more (by omega))).mono ?_
  rintro e w12 ⟨Ae, ce, rfl, ho, hb⟩
  rw [← HLY.out, ← HYY.out, ← HBY'.out]
  clear ho
  clear ceXp lbXp
  have hs12 := hb.size
  have B12 := Lib.hid (B11.out.trans (hb.mono B11.out.size))
  have Os12 := Lib.hid (Os11.out.below hb (by omega))
  have Xs12 := Lib.hid (Xs11.out.below hb Xs11.out.lt)
  have Xh12 := Lib.hid (Xh11.out.below hb Xh11.out.lt)
  have Ox12 := Lib.hid (Ox11.out.below hb (by omega))
  have Xx12 := Lib.hid (Xx11.out.below hb Xx11.out.lt)
  have Op12 := Lib.hid (Op11.out.below hb (by omega))
  have Xp12 := Lib.hid (Xp11.out.below hb Xp11.out.lt)
  have Oy12 := Lib.hid (Oy11.out.below hb (by omega))
  have Xy12 := Lib.hid (Xy11.out.below hb Xy11.out.lt)
  clear hb B11 Os11 Xs11 Xh11 Ox11 Xx11 Op11 Xp11 Oy11 Xy11
  go_upto_region 9 with fail
  obtain ⟨w13, hw13⟩ : ∃ q, q = w12.alloc (.cells #[.slice Ae ly.length ce, .int .i64 yy] 29) := ⟨_, rfl⟩
  rw [← hw13]
  have hb : Below w12.heap.size w12 w13 := by rw [hw13]; exact (Below.refl _ _).alloc (Nat.le_refl _) _
  have hxx : Blk w13 w12.heap.size 29 #[.slice Ae ly.length ce, .int .i64 yy] := by rw [hw13]; exact heap_alloc_new w12 _
  have HZ13 : Hid (w13.heap.size = w12.heap.size + 1) := Lib.hid (by rw [hw13]; simp)
  clear hw13
  have hs13 := hb.size
  have B13 := Lib.hid (B12.out.trans (hb.mono B12.out.size))
  have Os13 := Lib.hid (Os12.out.below hb (by omega))
  have Xs13 := Lib.hid (Xs12.out.below hb Xs12.out.lt)
  have Xh13 := Lib.hid (Xh12.out.below hb Xh12.out.lt)
  have Ox13 := Lib.hid (Ox12.out.below hb (by omega))
  have Xx13 := Lib.hid (Xx12.out.below hb Xx12.out.lt)
  have Op13 := Lib.hid (Op12.out.below hb (by omega))
  have Xp13 := Lib.hid (Xp12.out.below hb Xp12.out.lt)
  have Oy13 := Lib.hid (Oy12.out.below hb (by omega))
  have Xy13 := Lib.hid (Xy12.out.below hb Xy12.out.lt)
  clear hb B12 Os12 Xs12 Xh12 Ox12 Xx12 Op12 Xp12 Oy12 Xy12
  have Xe13 := Lib.hid hxx
  clear hxx
  have hlXe := Xe13.out.lt
  clear Xe13
  as_aux_lemma =>
  go_wp2_with fail
  refine (DrawStoreFall_any A n c l _ ((HL.out.below B13.out (Nat.le_refl _)).more B13.out.size) (by omega)).mono ?_
  rintro e w14 ⟨yf, lf, Af, cf, kf, rfl, ho, hlf, hb⟩
  have hs14 := hb.size
  have B14 := Lib.hid (B13.out.trans (hb.mono B13.out.size))
  have Os14 := Lib.hid (Os13.out.below hb (by omega))
  have Xs14 := Lib.hid (Xs13.out.below hb Xs13.out.lt)
  have Xh14 := Lib.hid (Xh13.out.below hb Xh13.out.lt)
  have Ox14 := Lib.hid (Ox13.out.below hb (by omega))
  have Xx14 := Lib.hid (Xx13.out.below hb Xx13.out.lt)
  have Op14 := Lib.hid (Op13.out.below hb (by omega))
  have Xp14 := Lib.hid (Xp13.out.below hb Xp13.out.lt)
  have Oy14 := Lib.hid (Oy13.out.below hb (by omega))
  have Xy14 := Lib.hid (Xy13.out.below hb Xy13.out.lt)
  clear hb B13 Os13 Xs13 Xh13 Ox13 Xx13 Op13 Xp13 Oy13 Xy13
  have Of14 := Lib.hid ho
  clear ho
  go_upto_region 10 with fail
  obtain ⟨w15, hw15⟩ : ∃ q, q = w14.alloc (.cells #[.slice Af lf.length cf, .int .i64 yf] 29) := ⟨_, rfl⟩
  rw [← hw15]
  have hb : Below w14.heap.size w14 w15 := by rw [hw15]; exact (Below.refl _ _).alloc (Nat.le_refl _) _
  have hxx : Blk w15 w14.heap.size 29 #[.slice Af lf.length cf, .int .i64 yf] := by rw [hw15]; exact heap_alloc_new w14 _
  have HZ15 : Hid (w15.heap.size = w14.heap.size + 1) := Lib.hid (by rw [hw15]; simp)
  clear hw15
  have hs15 := hb.size
  have B15 := Lib.hid (B14.out.trans (hb.mono B14.out.size))
  have Os15 := Lib.hid (Os14.out.below hb (by omega))
  have Xs15 := Lib.hid (Xs14.out.below hb Xs14.out.lt)
  have Xh15 := Lib.hid (Xh14.out.below hb Xh14.out.lt)
  have Ox15 := Lib.hid (Ox14.out.below hb (by omega))
  have Xx15 := Lib.hid (Xx14.out.below hb Xx14.out.lt)
  have Op15 := Lib.hid (Op14.out.below hb (by omega))
  have Xp15 := Lib.hid (Xp14.out.below hb Xp14.out.lt)
  have Oy15 := Lib.hid (Oy14.out.below hb (by omega))
  have Xy15 := Lib.hid (Xy14.out.below hb Xy14.out.lt)
  have Of15 := Lib.hid (Of14.out.below hb (by omega))
  clear hb B14 Os14 Xs14 Xh14 Ox14 Xx14 Op14 Xp14 Oy14 Xy14 Of14
  have Xf15 := Lib.hid hxx
  clear hxx
  have hlXf := Xf15.out.lt
  have ceXf := Xf15.out.cell
  have lbXf := Xf15.out.lt
  as_aux_lemma =>
  go_wp2_with fail
  refine (StoreFall_any yf Af cf lf kf _ ((Of15.out.rd headC_len).more (by omega)) (HT.out.below B15.out htp)).mono ?_
  rintro e w16 ⟨Az, cz, rfl, ho, hb⟩
  obtain ⟨lz, hlz⟩ : ∃ q, q = fallL lf yf kf := ⟨_, rfl⟩
  obtain ⟨yz, hyz⟩ : ∃ q, q = fallY lf yf kf := ⟨_, rfl⟩
  obtain ⟨bz, hbz⟩ : ∃ q, q = fallB lf yf kf := ⟨_, rfl⟩
  rw [← hlz] at ho
  rw [← hlz, ← hyz, ← hbz]
  have HLZ := Lib.hid hlz
  have HYZ := Lib.hid hyz
  have HBZ := Lib.hid hbz
  clear hlz hyz hbz
  clear ceXf lbXf
  have hs16 := hb.size
  have B16 := Lib.hid (B15.out.trans (hb.mono B15.out.size))
  have Os16 := Lib.hid (Os15.out.below hb (by omega))
  have Xs16 := Lib.hid (Xs15.out.below hb Xs15.out.lt)
  have Xh16 := Lib.hid (Xh15.out.below hb Xh15.out.lt)
  have Ox16 := Lib.hid (Ox15.out.below hb (by omega))
  have Xx16 := Lib.hid (Xx15.out.below hb Xx15.out.lt)
  have Op16 := Lib.hid (Op15.out.below hb (by omega))
  have Xp16 := Lib.hid (Xp15.out.below hb Xp15.out.lt)
  have Oy16 := Lib.hid (Oy15.out.below hb (by omega))
  have Xy16 := Lib.hid (Xy15.out.below hb Xy15.out.lt)
  have Of16 := Lib.hid (Of15.out.below hb (by omega))
  have Xf16 := Lib.hid (Xf15.out.below hb Xf15.out.lt)
  clear hb B15 Os15 Xs15 Xh15 Ox15 Xx15 Op15 Xp15 Oy15 Xy15 Of15 Xf15
  have Oz16 := Lib.hid ho
  clear ho
  go_upto_region 11 with fail
  obtain ⟨w17, hw17⟩ : ∃ q, q = w16.alloc (.cells #[.slice Az lz.length cz, .int .i64 yz] 29) := ⟨_, rfl⟩
  rw [← hw17]
  have hb : Below w16.heap.size w16 w17 := by rw [hw17]; exact (Below.refl _ _).alloc (Nat.le_refl _) _
  have hxx : Blk w17 w16.heap.size 29 #[.slice Az lz.length cz, .int .i64 yz] := by rw [hw17]; exact heap_alloc_new w16 _
  have HZ17 : Hid (w17.heap.size = w16.heap.size + 1) := Lib.hid (by rw [hw17]; simp)
  clear hw17
  have hs17 := hb.size
  have B17 := Lib.hid (B16.out.trans (hb.mono B16.out.size))
  have Os17 := Lib.hid (Os16.out.below hb (by omega))
  have Xs17 := Lib.hid (Xs16.out.below hb Xs16.out.lt)
  have Xh17 := Lib.hid (Xh16.out.below hb Xh16.out.lt)
  have Ox17 := Lib.hid (Ox16.out.below hb (by omega))
  have Xx17 := Lib.hid (Xx16.out.below hb Xx16.out.lt)
  have Op17 := Lib.hid (Op16.out.below hb (by omega))
  have Xp17 := Lib.hid (Xp16.out.below hb Xp16.out.lt)
  have Oy17 := Lib.hid (Oy16.out.below hb (by omega))
  have Xy17 := Lib.hid (Xy16.out.below hb Xy16.out.lt)
  have Of17 := Lib.hid (Of16.out.below hb (by omega))
  have Xf17 := Lib.hid (Xf16.out.below hb Xf16.out.lt)
  have Oz17 := Lib.hid (Oz16.out.below hb (by omega))
  clear hb B16 Os16 Xs16 Xh16 Ox16 Xx16 Op16 Xp16 Oy16 Xy16 Of16 Xf16 Oz16
  have Xz17 := Lib.hid hxx
  clear hxx
  have hlXz := Xz17.out.lt
  have ceXf := Xf17.out.cell
  have lbXf := Xf17.out.lt
  as_aux_lemma =>
  go_wp2_with fail
  refine (sStoreOk_b Af lf.length cf lf yf bz _ ((Of17.out.rd headC_len).more (by omega)) (by rw [HBZ.out]; rfl)).mono ?_
  rintro e w18 ⟨rfl, hb⟩
  clear ceXf lbXf
  have hs18 := hb.size
  have B18 := Lib.hid (B17.out.trans (hb.mono B17.out.size))
  have Os18 := Lib.hid (Os17.out.below hb (by omega))
  have Xs18 := Lib.hid (Xs17.out.below hb Xs17.out.lt)
  have Xh18 := Lib.hid (Xh17.out.below hb Xh17.out.lt)
  have Ox18 := Lib.hid (Ox17.out.below hb (by omega))
  have Xx18 := Lib.hid (Xx17.out.below hb Xx17.out.lt)
  have Op18 := Lib.hid (Op17.out.below hb (by omega))
  have Xp18 := Lib.hid (Xp17.out.below hb Xp17.out.lt)
  have Oy18 := Lib.hid (Oy17.out.below hb (by omega))
  have Xy18 := Lib.hid (Xy17.out.below hb Xy17.out.lt)
  have Of18 := Lib.hid (Of17.out.below hb (by omega))
  have Xf18 := Lib.hid (Xf17.out.below hb Xf17.out.lt)
  have Oz18 := Lib.hid (Oz17.out.below hb (by omega))
  have Xz18 := Lib.hid (Xz17.out.below hb Xz17.out.lt)
  clear hb B17 Os17 Xs17 Xh17 Ox17 Xx17 Op17 Xp17 Oy17 Xy17 Of17 Xf17 Oz17 Xz17
  generalize (Value.tuple #[Value.agg #[Value.slice As ls.length cs, Value.int IntKind.i64 ys], Value.agg #[.int .i64 p.h, .int .i64 p.t, .string p.last, .string p.vals, .string p.next, .string p.data]] : Value) = zt0
  generalize (Value.tuple #[Value.agg #[Value.slice Ax lx.length cx, Value.int IntKind.i64 yx], Value.bool bx] : Value) = zt1
  generalize (Value.tuple #[Value.agg #[Value.slice Ad lx.length cd, Value.int IntKind.i64 yx], Value.bool bx] : Value) = zt2
  generalize (Value.tuple #[Value.agg #[Value.slice Ap lp.length cp, Value.int IntKind.i64 yp], Value.int IntKind.i64 kp] : Value) = zt3
  generalize (Value.tuple #[Value.agg #[Value.slice Ay ly.length cy, Value.int IntKind.i64 yy], Value.bool by'] : Value) = zt4
  generalize (Value.tuple #[Value.agg #[Value.slice Ae ly.length ce, Value.int IntKind.i64 yy], Value.bool by'] : Value) = zt5
  generalize (Value.tuple #[Value.agg #[Value.slice Af lf.length cf, Value.int IntKind.i64 yf], Value.int IntKind.i64 kf] : Value) = zt6
  generalize (Value.tuple #[Value.agg #[Value.slice Az lz.length cz, Value.int IntKind.i64 yz], Value.bool bz] : Value) = zt7
  generalize (Value.agg #[Value.slice As ls.length cs, Value.int IntKind.i64 ys] : Value) = za0
  generalize (Value.agg #[Value.slice Ax lx.length cx, Value.int IntKind.i64 yx] : Value) = za1
  generalize (Value.agg #[Value.slice Ad lx.length cd, Value.int IntKind.i64 yx] : Value) = za2
  generalize (Value.agg #[Value.slice Ap lp.length cp, Value.int IntKind.i64 yp] : Value) = za3
  generalize (Value.agg #[Value.slice Ay ly.length cy, Value.int IntKind.i64 yy] : Value) = za4
  generalize (Value.agg #[Value.slice Ae ly.length ce, Value.int IntKind.i64 yy] : Value) = za5
  generalize (Value.agg #[Value.slice Af lf.length cf, Value.int IntKind.i64 yf] : Value) = za6
  generalize (Value.agg #[Value.slice Az lz.length cz, Value.int IntKind.i64 yz] : Value) = za7
  generalize (Value.agg #[.int .i64 p.h, .int .i64 p.t, .string p.last, .string p.vals, .string p.next, .string p.data] : Value) = zp
  go_upto_region 13 with fail
  go_cut [125] (fun t wx => t = .bool false ∧ Below w18.heap.size w18 wx)
  case first =>
    as_aux_lemma =>
      have ceXs := Xs18.out.cell
      have lbXs := Xs18.out.lt
      have ceXx := Xx18.out.cell
      have lbXx := Xx18.out.lt
      have ceXh := Xh18.out.cell
      have lbXh := Xh18.out.lt
      have RS := Lib.hid ((Os18.out.rd headC_len).more (B' := w18.heap.size) (by omega))
      have RX := Lib.hid ((Ox18.out.rd headC_len).more (B' := w18.heap.size) (by omega))
      cases hsb : storeB ls ys
      · have HSB := Lib.hid hsb
        clear hsb
        as_aux_lemma =>
        refine wp_region_below (by kernel_rfl) (by kernel_rfl) ?_
        repeat (first | go_big_quiet_skip | (go_big_quiet_want; go_big_quiet_op; first | go_big_quiet_on | (apply Exists.intro; refine ⟨fun w1 hC => ?_, ?_⟩; (focus (first | rfl | (go_at_call 11; with_reducible exact quiet_below hC (sStoreOk_b As ls.length cs ls ys false _ (by exact (RS.out.below hC (Nat.le_refl _)).more hC.size) HSB.out)) | (simp [(bcell hC).1, ceXs, lbXs]; done) | (simp [(bcell hC).1, ceXs, lbXs]; rfl))); go_big_quiet_on)))
        refine wpQuiet_nil ?_
        intro w2 hb2
        obtain ⟨hc2, hf2, hz2⟩ := bcell hb2
        go_wp2_with fail
        go_meet
        exact ⟨rfl, hb2⟩
      · have HSB := Lib.hid hsb
        have HXB : Hid (storeB lx yx = true) := Lib.hid (by rw [HLX.out, HYX.out]; exact add_kept hsb)
        have hba := HBX.out
        cases bx
        · have e : ls = lx := (HLX.out.trans (add_false hsb hba.symm)).symm
          subst e
          clear hsb hba
          as_aux_lemma =>
          refine wp_region_below (by kernel_rfl) (by kernel_rfl) ?_
          repeat (first | go_big_quiet_skip | (go_big_quiet_want; go_big_quiet_op; first | go_big_quiet_on | (apply Exists.intro; refine ⟨fun w1 hC => ?_, ?_⟩; (focus (first | rfl | (go_at_call 11; with_reducible exact quiet_below hC (sStoreOk_b As ls.length cs ls ys true _ (by exact (RS.out.below hC (Nat.le_refl _)).more hC.size) HSB.out)) | (go_at_call 11; with_reducible exact quiet_below hC (sStoreOk_b Ax ls.length cx ls yx true _ (by exact (RX.out.below hC (Nat.le_refl _)).more hC.size) HXB.out)) | (go_at_call 34; with_reducible exact quiet_below hC (sameHeads_same Ax ls.length cx As cs ls _ (by exact (RX.out.below hC (Nat.le_refl _)).more hC.size) (by exact (RS.out.below hC (Nat.le_refl _)).more hC.size))) | (simp [(bcell hC).1, ceXs, lbXs, ceXx, lbXx]; done) | (simp [(bcell hC).1, ceXs, lbXs, ceXx, lbXx]; rfl))); go_big_quiet_on)))
          refine wpQuiet_nil ?_
          intro w2 hb2
          obtain ⟨hc2, hf2, hz2⟩ := bcell hb2
          go_wp2_with fail
          go_meet
          exact ⟨rfl, hb2⟩
        · have e : lx = ls ++ [p] := HLX.out.trans (add_true hba.symm)
          have hlen : lx.length = ls.length + 1 := by rw [e]; simp
          have hkl : ls.length < lx.length := by omega
          obtain ⟨Bq, off, p', rfl, hBl, hp', c0, c1, c2, c3, c4, c5⟩ := head_cells RX.out hkl
          obtain rfl : p = p' := by rw [e] at hp'; simpa using hp'
          have hki : (lx.length : Int) - 1 = ls.length := by omega
          have hk0 : (0 : Int) ≤ ls.length := by omega
          have hk1 : (ls.length : Int) < lx.length := by omega
          have hx0 : ((lx.length : Int) == 0) = false := beq_eq_false_iff_ne.2 (by omega)
          have hx0' : ¬ (lx.length : Int) = 0 := by omega
          have HE := Lib.hid e
          clear hsb hba hp' e hlen
          as_aux_lemma =>
          refine wp_region_below (by kernel_rfl) (by kernel_rfl) ?_
          repeat (first | go_big_quiet_skip | (go_big_quiet_want; go_big_quiet_op; first | go_big_quiet_on | (apply Exists.intro; refine ⟨fun w1 hC => ?_, ?_⟩; (focus (first | rfl | (go_at_call 11; with_reducible exact quiet_below hC (sStoreOk_b As ls.length cs ls ys true _ (by exact (RS.out.below hC (Nat.le_refl _)).more hC.size) HSB.out)) | (go_at_call 11; with_reducible exact quiet_below hC (sStoreOk_b (some ⟨Bq, off, none⟩) lx.length cx lx yx true _ (by exact (RX.out.below hC (Nat.le_refl _)).more hC.size) HXB.out)) | (simp [(bcell hC).1, ceXs, lbXs, ceXx, lbXx, ceXh, lbXh, hBl, c0, c1, c2, c3, c4, c5]; done) | (simp [(bcell hC).1, ceXs, lbXs, ceXx, lbXx, ceXh, lbXh, hBl, c0, c1, c2, c3, c4, c5]; rfl))); go_big_quiet_on)))
          refine wpQuiet_nil ?_
          intro w2 hb2
          obtain ⟨hc2, hf2, hz2⟩ := bcell hb2
          go_wp2_with fail
          go_meet
          exact ⟨rfl, hb2⟩
  case rest =>
  as_aux_lemma =>
  obtain ⟨rfl, hb⟩ := hcut
  obtain ⟨w19, hwc⟩ : ∃ q, q = wc := ⟨_, rfl⟩
  subst hwc
  have hs19 := hb.size
  have B19 := Lib.hid (B18.out.trans (hb.mono B18.out.size))
  have Os19 := Lib.hid (Os18.out.below hb (by omega))
  have Xs19 := Lib.hid (Xs18.out.below hb Xs18.out.lt)
  have Xh19 := Lib.hid (Xh18.out.below hb Xh18.out.lt)
  have Ox19 := Lib.hid (Ox18.out.below hb (by omega))
  have Xx19 := Lib.hid (Xx18.out.below hb Xx18.out.lt)
  have Op19 := Lib.hid (Op18.out.below hb (by omega))
  have Xp19 := Lib.hid (Xp18.out.below hb Xp18.out.lt)
  have Oy19 := Lib.hid (Oy18.out.below hb (by omega))
  have Xy19 := Lib.hid (Xy18.out.below hb Xy18.out.lt)
  have Of19 := Lib.hid (Of18.out.below hb (by omega))
  have Xf19 := Lib.hid (Xf18.out.below hb Xf18.out.lt)
  have Oz19 := Lib.hid (Oz18.out.below hb (by omega))
  have Xz19 := Lib.hid (Xz18.out.below hb Xz18.out.lt)
  clear hb B18 Os18 Xs18 Xh18 Ox18 Xx18 Op18 Xp18 Oy18 Xy18 Of18 Xf18 Oz18 Xz18
  clear Xs19
  clear Xx19
  clear Xh19
  clear Os19
  clear Ox19
  go_upto_region 15 with fail
  go_cut [163] (fun t wx => t = .bool false ∧ Below w19.heap.size w19 wx)
  case first =>
    as_aux_lemma =>
      have ceXp := Xp19.out.cell
      have lbXp := Xp19.out.lt
      have ceXy := Xy19.out.cell
      have lbXy := Xy19.out.lt
      have RP := Lib.hid ((Op19.out.rd headC_len).more (B' := w19.heap.size) (by omega))
      have RY := Lib.hid ((Oy19.out.rd headC_len).more (B' := w19.heap.size) (by omega))
      cases hsb : storeB lp yp
      · have HSB := Lib.hid hsb
        clear hsb
        as_aux_lemma =>
        refine wp_region_below (by kernel_rfl) (by kernel_rfl) ?_
        repeat (first | go_big_quiet_skip | (go_big_quiet_want; go_big_quiet_op; first | go_big_quiet_on | (apply Exists.intro; refine ⟨fun w1 hC => ?_, ?_⟩; (focus (first | rfl | (go_at_call 11; with_reducible exact quiet_below hC (sStoreOk_b Ap lp.length cp lp yp false _ (by exact (RP.out.below hC (Nat.le_refl _)).more hC.size) HSB.out)) | (simp [(bcell hC).1, ceXp, lbXp]; done) | (simp [(bcell hC).1, ceXp, lbXp]; rfl))); go_big_quiet_on)))
        refine wpQuiet_nil ?_
        intro w2 hb2
        obtain ⟨hc2, hf2, hz2⟩ := bcell hb2
        go_wp2_with fail
        go_meet
        exact ⟨rfl, hb2⟩
      · have HSB := Lib.hid hsb
        have HYB : Hid (storeB ly yy = true) := Lib.hid (by rw [HLY.out, HYY.out]; exact prune_kept hsb)
        have hba := HBY'.out
        clear hsb
        cases by'
        · clear hba
          as_aux_lemma =>
          refine wp_region_below (by kernel_rfl) (by kernel_rfl) ?_
          repeat (first | go_big_quiet_skip | (go_big_quiet_want; go_big_quiet_op; first | go_big_quiet_on | (apply Exists.intro; refine ⟨fun w1 hC => ?_, ?_⟩; (focus (first | rfl | (go_at_call 11; with_reducible exact quiet_below hC (sStoreOk_b Ap lp.length cp lp yp true _ (by exact (RP.out.below hC (Nat.le_refl _)).more hC.size) HSB.out)) | (go_at_call 11; with_reducible exact quiet_below hC (sStoreOk_b Ay ly.length cy ly yy true _ (by exact (RY.out.below hC (Nat.le_refl _)).more hC.size) HYB.out)) | (simp [(bcell hC).1, ceXp, lbXp, ceXy, lbXy]; done) | (simp [(bcell hC).1, ceXp, lbXp, ceXy, lbXy]; rfl))); go_big_quiet_on)))
          refine wpQuiet_nil ?_
          intro w2 hb2
          obtain ⟨hc2, hf2, hz2⟩ := bcell hb2
          go_wp2_with fail
          go_meet
          exact ⟨rfl, hb2⟩
        · obtain ⟨j, p2, g1, g2, g3, g4, g5, g6, g7⟩ := prune_cut hba.symm
          rw [← HLY.out] at g1 g3 g4
          obtain ⟨Bq, off, p', rfl, hBl, hp', c0, c1, c2, c3, c4, c5⟩ := head_cells RY.out g3
          obtain rfl : p2 = p' := by rw [g4] at hp'; injection hp'
          have hml : lp.length - 1 < lp.length := by omega
          obtain ⟨Bq2, off2, p', rfl, hBl2, hp2, d0, d1, d2, d3, d4, d5⟩ := head_cells RP.out hml
          obtain rfl : p2 = p' := by rw [g5] at hp2; injection hp2
          obtain ⟨m, hm⟩ : ∃ m, m = lp.length - 1 := ⟨_, rfl⟩
          rw [← hm] at d0 d1 d2 d3 d4 d5 hml
          have hki : (lp.length : Int) - 1 = m := by omega
          have hj1 : (j : Int) < ly.length := by omega
          have hj0 : (0 : Int) ≤ j := by omega
          have hm1 : (m : Int) < lp.length := by omega
          have hm0 : (0 : Int) ≤ m := by omega
          have hlen := StorePrune_len yp lp kp
          rw [← HLY.out] at hlen
          have hw : IntKind.i64.wrap (kp - 1) = (j : Int) := (low_i64 _ (by omega) (by omega)).trans g2
          have hwj : IntKind.i64.wrap (j : Int) = (j : Int) := low_i64 _ (by omega) (by omega)
          clear hlen
          have hk1 : decide (kp < 1) = false := decide_eq_false (by omega)
          have hk1' : ¬ kp < 1 := by omega
          have hne : ((ly.length : Int) != kp) = false := by simp; exact g1
          have hne' : ¬ ¬ (ly.length : Int) = kp := fun h => h g1
          have HG := Lib.hid g1
          clear hba hp' hp2 g1 g4 g5 g6 g7 hm
          as_aux_lemma =>
          refine wp_region_below (by kernel_rfl) (by kernel_rfl) ?_
          repeat (first | go_big_quiet_skip | (go_big_quiet_want; go_big_quiet_op; first | go_big_quiet_on | (apply Exists.intro; refine ⟨fun w1 hC => ?_, ?_⟩; (focus (first | rfl | (go_at_call 11; with_reducible exact quiet_below hC (sStoreOk_b (some ⟨Bq2, off2, none⟩) lp.length cp lp yp true _ (by exact (RP.out.below hC (Nat.le_refl _)).more hC.size) HSB.out)) | (go_at_call 11; with_reducible exact quiet_below hC (sStoreOk_b (some ⟨Bq, off, none⟩) ly.length cy ly yy true _ (by exact (RY.out.below hC (Nat.le_refl _)).more hC.size) HYB.out)) | (simp [(bcell hC).1, ceXp, lbXp, ceXy, lbXy, hBl, hBl2, c0, c1, c2, c3, c4, c5, d0, d1, d2, d3, d4, d5]; done) | (simp [(bcell hC).1, ceXp, lbXp, ceXy, lbXy, hBl, hBl2, c0, c1, c2, c3, c4, c5, d0, d1, d2, d3, d4, d5]; rfl))); go_big_quiet_on)))
          refine wpQuiet_nil ?_
          intro w2 hb2
          obtain ⟨hc2, hf2, hz2⟩ := bcell hb2
          go_wp2_with fail
          go_meet
          exact ⟨rfl, hb2⟩
  case rest =>
  as_aux_lemma =>
  obtain ⟨rfl, hb⟩ := hcut
  obtain ⟨w20, hwc⟩ : ∃ q, q = wc := ⟨_, rfl⟩
  subst hwc
  have hs20 := hb.size
  have B20 := Lib.hid (B19.out.trans (hb.mono B19.out.size))
  have Op20 := Lib.hid (Op19.out.below hb (by omega))
  have Xp20 := Lib.hid (Xp19.out.below hb Xp19.out.lt)
  have Oy20 := Lib.hid (Oy19.out.below hb (by omega))
  have Xy20 := Lib.hid (Xy19.out.below hb Xy19.out.lt)
  have Of20 := Lib.hid (Of19.out.below hb (by omega))
  have Xf20 := Lib.hid (Xf19.out.below hb Xf19.out.lt)
  have Oz20 := Lib.hid (Oz19.out.below hb (by omega))
  have Xz20 := Lib.hid (Xz19.out.below hb Xz19.out.lt)
  clear hb B19 Op19 Xp19 Oy19 Xy19 Of19 Xf19 Oz19 Xz19
  clear Xp20
  clear Xy20
  clear Op20
  clear Oy20
  go_upto_region 17 with fail
  go_cut [201] (fun t wx => t = .bool false ∧ Below w20.heap.size w20 wx)
  case first =>
    as_aux_lemma =>
      have ceXf := Xf20.out.cell
      have lbXf := Xf20.out.lt
      have ceXz := Xz20.out.cell
      have lbXz := Xz20.out.lt
      have RZ := Lib.hid ((Oz20.out.rd headC_len).more (B' := w20.heap.size) (by omega))
      have RF := ((Of20.out.rd headC_len).more (B' := w20.heap.size) (by omega))
      cases bz
      · clear RF
        as_aux_lemma =>
        refine wp_region_below (by kernel_rfl) (by kernel_rfl) ?_
        repeat (first | go_big_quiet_skip | (go_big_quiet_want; go_big_quiet_op; first | go_big_quiet_on | (apply Exists.intro; refine ⟨fun w1 hC => ?_, ?_⟩; (focus (first | rfl | fail | (simp [(bcell hC).1, ceXf, lbXf, ceXz, lbXz]; done) | (simp [(bcell hC).1, ceXf, lbXf, ceXz, lbXz]; rfl))); go_big_quiet_on)))
        refine wpQuiet_nil ?_
        intro w2 hb2
        obtain ⟨hc2, hf2, hz2⟩ := bcell hb2
        go_wp2_with fail
        go_meet
        exact ⟨rfl, hb2⟩
      · obtain ⟨f1, f2, f3, f4, f5⟩ := fall_n (k := kf) (show storeB lf yf = true from HBZ.out.symm)
        rw [← HLZ.out] at f1 f3
        rw [← HYZ.out] at f2
        have hzl : lz.length ≤ lf.length := by omega
        have hcap := RF.2.2.1
        have RT : Hid (RdL headC 6 w20 w20.heap.size Af lz.length cf lz) := Lib.hid (by
          have h := RF.take headC_len hzl
          rw [f3, ← f1] at h
          rw [f3]; exact h)
        clear RF
        have hyz : yz = (lz.length : Int) := by rw [f2, f3]
        subst hyz
        have hlt : decide ((lz.length : Int) < yf) = false := decide_eq_false (by omega)
        have hlt' : ¬ (lz.length : Int) < yf := by omega
        have hgt : decide ((lf.length : Int) < lz.length) = false := decide_eq_false (by omega)
        have hgt' : ¬ (lf.length : Int) < lz.length := by omega
        have hlei : (lz.length : Int) ≤ lf.length := by omega
        have hlcap : (lz.length : Int) ≤ cf := by omega
        have hl0 : (0 : Int) ≤ lz.length := by omega
        clear f1 f2 f3 f4 f5
        as_aux_lemma =>
        refine wp_region_below (by kernel_rfl) (by kernel_rfl) ?_
        repeat (first | go_big_quiet_skip | (go_big_quiet_want; go_big_quiet_op; first | go_big_quiet_on | (apply Exists.intro; refine ⟨fun w1 hC => ?_, ?_⟩; (focus (first | rfl | (go_at_call 34; with_reducible exact quiet_below hC (sameHeads_same Az lz.length cz Af cf lz _ (by exact (RZ.out.below hC (Nat.le_refl _)).more hC.size) (by exact (RT.out.below hC (Nat.le_refl _)).more hC.size))) | (simp [(bcell hC).1, ceXf, lbXf, ceXz, lbXz]; done) | (simp [(bcell hC).1, ceXf, lbXf, ceXz, lbXz]; rfl))); go_big_quiet_on)))
        refine wpQuiet_nil ?_
        intro w2 hb2
        obtain ⟨hc2, hf2, hz2⟩ := bcell hb2
        go_wp2_with fail
        go_meet
        exact ⟨rfl, hb2⟩
  case rest =>
  as_aux_lemma =>
  obtain ⟨rfl, hb⟩ := hcut
  obtain ⟨w21, hwc⟩ : ∃ q, q = wc := ⟨_, rfl⟩
  subst hwc
  have hs21 := hb.size
  have B21 := Lib.hid (B20.out.trans (hb.mono B20.out.size))
  have Of21 := Lib.hid (Of20.out.below hb (by omega))
  have Xf21 := Lib.hid (Xf20.out.below hb Xf20.out.lt)
  have Oz21 := Lib.hid (Oz20.out.below hb (by omega))
  have Xz21 := Lib.hid (Xz20.out.below hb Xz20.out.lt)
  clear hb B20 Of20 Xf20 Oz20 Xz20
  clear Xf21
  clear Xz21
  clear Of21
  clear Oz21
  as_aux_lemma =>
  go_wp2_with fail
  refine (DrawStoreGet_any A n c l _ ((HL.out.below B21.out (Nat.le_refl _)).more B21.out.size) (by omega)).mono ?_
  rintro e w22 ⟨yg, lg, Ag, cg, kg, rfl, ho, hlg, hb⟩
  have hs22 := hb.size
  have B22 := Lib.hid (B21.out.trans (hb.mono B21.out.size))
  clear hb B21
  have Og22 := Lib.hid ho
  clear ho
  go_upto_region 20 with fail
  obtain ⟨w23, hw23⟩ : ∃ q, q = w22.alloc (.cells #[.slice Ag lg.length cg, .int .i64 yg] 29) := ⟨_, rfl⟩
  rw [← hw23]
  have hb : Below w22.heap.size w22 w23 := by rw [hw23]; exact (Below.refl _ _).alloc (Nat.le_refl _) _
  have hxx : Blk w23 w22.heap.size 29 #[.slice Ag lg.length cg, .int .i64 yg] := by rw [hw23]; exact heap_alloc_new w22 _
  have HZ23 : Hid (w23.heap.size = w22.heap.size + 1) := Lib.hid (by rw [hw23]; simp)
  clear hw23
  have hs23 := hb.size
  have B23 := Lib.hid (B22.out.trans (hb.mono B22.out.size))
  have Og23 := Lib.hid (Og22.out.below hb (by omega))
  clear hb B22 Og22
  have Xg23 := Lib.hid hxx
  clear hxx
  have hlXg := Xg23.out.lt
  have ceXg := Xg23.out.cell
  have lbXg := Xg23.out.lt
  as_aux_lemma =>
  go_wp2_with fail
  refine (StoreGet_any yg Ag cg lg kg _ ((Og23.out.rd headC_len).more (by omega)) (HT.out.below B23.out htp)).mono ?_
  rintro e w24 ⟨rfl, hb⟩
  obtain ⟨gg, hq⟩ : ∃ q, q = getG (getO lg yg kg) := ⟨_, rfl⟩
  obtain ⟨bo, hbo⟩ : ∃ q, q = (getO lg yg kg).isSome := ⟨_, rfl⟩
  rw [← hq, ← hbo]
  have HQ := Lib.hid hq
  have HBO := Lib.hid hbo
  clear hq hbo
  clear ceXg lbXg
  have hs24 := hb.size
  have B24 := Lib.hid (B23.out.trans (hb.mono B23.out.size))
  have Og24 := Lib.hid (Og23.out.below hb (by omega))
  have Xg24 := Lib.hid (Xg23.out.below hb Xg23.out.lt)
  clear hb B23 Og23 Xg23
  go_upto_region 21 with fail
  obtain ⟨w25, hw25⟩ : ∃ q, q = w24.alloc (.cells #[.int .i64 gg.h, .int .i64 gg.t, .string gg.last, .string gg.vals, .string gg.next, .string gg.data] 34) := ⟨_, rfl⟩
  rw [← hw25]
  have hb : Below w24.heap.size w24 w25 := by rw [hw25]; exact (Below.refl _ _).alloc (Nat.le_refl _) _
  have hxx : Blk w25 w24.heap.size 34 #[.int .i64 gg.h, .int .i64 gg.t, .string gg.last, .string gg.vals, .string gg.next, .string gg.data] := by rw [hw25]; exact heap_alloc_new w24 _
  have HZ25 : Hid (w25.heap.size = w24.heap.size + 1) := Lib.hid (by rw [hw25]; simp)
  clear hw25
  have hs25 := hb.size
  have B25 := Lib.hid (B24.out.trans (hb.mono B24.out.size))
  have Og25 := Lib.hid (Og24.out.below hb (by omega))
  have Xg25 := Lib.hid (Xg24.out.below hb Xg24.out.lt)
  clear hb B24 Og24 Xg24
  have Xa25 := Lib.hid hxx
  clear hxx
  have hlXa := Xa25.out.lt
  have ceXg := Xg25.out.cell
  have lbXg := Xg25.out.lt
  as_aux_lemma =>
  go_wp2_with fail
  refine (sStoreGet_any yg Ag cg lg kg _ ((Og25.out.rd headC_len).more (by omega))).mono ?_
  rintro e w26 ⟨rfl, hb⟩
  rw [← HQ.out, ← HBO.out]
  clear ceXg lbXg
  have hs26 := hb.size
  have B26 := Lib.hid (B25.out.trans (hb.mono B25.out.size))
  have Og26 := Lib.hid (Og25.out.below hb (by omega))
  have Xg26 := Lib.hid (Xg25.out.below hb Xg25.out.lt)
  have Xa26 := Lib.hid (Xa25.out.below hb Xa25.out.lt)
  clear hb B25 Og25 Xg25 Xa25
  go_upto_region 22 with fail
  obtain ⟨w27, hw27⟩ : ∃ q, q = w26.alloc (.cells #[.int .i64 gg.h, .int .i64 gg.t, .string gg.last, .string gg.vals, .string gg.next, .string gg.data] 34) := ⟨_, rfl⟩
  rw [← hw27]
  have hb : Below w26.heap.size w26 w27 := by rw [hw27]; exact (Below.refl _ _).alloc (Nat.le_refl _) _
  have hxx : Blk w27 w26.heap.size 34 #[.int .i64 gg.h, .int .i64 gg.t, .string gg.last, .string gg.vals, .string gg.next, .string gg.data] := by rw [hw27]; exact heap_alloc_new w26 _
  have HZ27 : Hid (w27.heap.size = w26.heap.size + 1) := Lib.hid (by rw [hw27]; simp)
  clear hw27
  have hs27 := hb.size
  have B27 := Lib.hid (B26.out.trans (hb.mono B26.out.size))
  have Og27 := Lib.hid (Og26.out.below hb (by omega))
  have Xg27 := Lib.hid (Xg26.out.below hb Xg26.out.lt)
  have Xa27 := Lib.hid (Xa26.out.below hb Xa26.out.lt)
  clear hb B26 Og26 Xg26 Xa26
  have Xb27 := Lib.hid hxx
  clear hxx
  have hlXb := Xb27.out.lt
  have ceXa := Xa27.out.cell
  have lbXa := Xa27.out.lt
  have ceXb := Xb27.out.cell
  have lbXb := Xb27.out.lt
  cases bo
  · go_wp2_with fail
    go_ret
    exact ⟨rfl, B27.out⟩
  · have hqk : kg = gg.h := by
      obtain ⟨x, hx⟩ := Option.isSome_iff_exists.1 HBO.out.symm
      rw [HQ.out, hx]
      exact (get_at hx).symm
    subst hqk
    go_wp2_with fail
    go_ret
    exact ⟨rfl, B27.out⟩

set_option maxRecDepth 100000 in
set_option maxHeartbeats 2000000 in
theorem FnStore_lifted (os : Os) (started : os.Started) (H : Type) (enc : TypeId × Value → H) :
    ReturnsInHanded {} Tryd.checked os 9 .any (fun w args => (Rows.fnStoreSpec.pre enc Tryd.prog Tryd.f9 Rows.fnStoreRow.domain false w args ∧ laidMet Tryd.prog Rows.fnStoreRow.laid w) ∧ sizedMet enc Tryd.prog Tryd.f9 (OpenSpec.ofChange Rows.fnStoreSpec) false w args)
      (Rows.fnStoreSpec.post enc Tryd.prog Tryd.f9 false true false false) := by
  refine returnsInHanded_of_change_and (C := Tryd.checked) (X := fun w _ => laidMet Tryd.prog Rows.fnStoreRow.laid w) (fun _ _ _ hh h => h.of_heap hh) own started (by kernel_rfl) Tryd.func9
    (ChangeSpec.witness_at (enc := enc) (C := Tryd.checked) (os := os) (X := fun w _ => laidMet Tryd.prog Rows.fnStoreRow.laid w) false (tabWorld os) #[.slice none 0 0] 8 rfl (by kernel_rfl) (by kernel_rfl) (by kernel_rfl) (by kernel_rfl) (by kernel_rfl) (tabWorld_met os _)) ?_
  intro W base args ds gs before hval0 hW hcnd _ hL _
  have hval : ∀ (j : Nat) t v, Tryd.f9.params[j]? = some t → args[j]? = some v → Value.okWide Tryd.prog W .any base t v := hval0
  have hW' := hW
  obtain ⟨p, q, hA0, hV, rfl, hfz, hnd⟩ := hW
  have hA : DataW.TrodAll enc Tryd.prog W 0 (fun _ => true) true Tryd.f9.params.toList args.toList ds p := hA0
  rw [Tryd.params9] at hA hval
  obtain ⟨v0, vs0, d0, ds0, p0, q0, hargs, rfl, rfl, h0, r0⟩ := trodAll_cons hA
  obtain ⟨rfl, rfl, rfl⟩ := trodAll_nil r0
  obtain rfl : args = #[v0] := by cases args; simp_all
  have ht := tab_of_laid hL
  obtain ⟨A, n, c, rfl, l, hl⟩ := open_code (hval 0 48 v0 rfl rfl) h0
  refine (FnStore_walk A n c l W hl ht).mono fun r W' ⟨hr, hb⟩ => ?_
  subst hr
  exact ⟨_, rfl, law_post1 (f := Tryd.f9) (tb := 4) (t := 88) rfl Tryd.underlying4 rfl (by kernel_rfl) (by kernel_rfl) (by kernel_rfl) (fun d => rfl) (fun d => rfl) (fun d => rfl) hW' hb⟩

theorem FnStore_row : Rows.FnStoreSaid :=
  OpenClaim.holds_of_wide 9 Tryd.f9 rfl rfl rfl rfl rfl rfl rfl ⟨rfl, rfl, rfl, rfl, rfl⟩ rfl rfl rfl rfl rfl (by kernel_rfl) Tryd.func9 (by kernel_rfl)
    (of_decide_eq_true (by kernel_rfl)) (by unfold Func.isWrapper; first | (rw [if_pos (by decide +kernel)]; kernel_rfl) | (rw [if_neg (by decide +kernel)]; exact ⟨rfl, rfl⟩))
    (fun os started H enc _ => FnStore_lifted os started H enc)

theorem FnStore_holds : Rows.FnStoreCardSaid :=
  Claim7.holds_tied_plain_at .later [] [.data] true Rows.fnStoreCard.stood.harness false
    FnStore_row (fun _ h => by cases h) (by kernel_rfl) (fun _ h => by cases h) fnStore_row_tie rfl ⟨rfl, rfl⟩ (by kernel_rfl) rfl
    (fun f fn hf hfn => by
      obtain rfl : f = 9 := Option.some.inj ((show Tryd.prog.funcNamed "loop.example/g00946/laws.FnStore" = some 9 by kernel_rfl).symm.trans hf) |>.symm
      obtain rfl : fn = Tryd.f9 := (Option.some.inj (Tryd.func9.symm.trans hfn)).symm
      exact ⟨by kernel_rfl, fun j t ht => by
        rw [Tryd.params9] at ht
        have h3 : t = 48 := by
          rcases j with _ | j
          · simpa using ht.symm
          · simp at ht
        subst h3
        exact (show Tryd.prog.wantsStandIn 48 = false by kernel_rfl)⟩)
    (by kernel_rfl)

end Go.Proofs.YtjdknaipmboekaaDoor
