/- The program's StoreAdd returns what the reference's returns, for all arguments. No conditions. -/
import Derived.Test.YtjdknaipmboekaaDoorStoreFam
import Derived.Test.YtjdknaipmboekaaDoorElHeader
import Derived.Test.YtjdknaipmboekaaDoorCard
import Derived.Test.YtjdknaipmboekaaDoorStoreAdd
import Derived.Test.YtjdknaipmboekaaDoorL
import Derived.Deep.RegionWith
import Derived.Deep.DeepCutAuto
import Derived.Test.YtjdknaipmboekaaDoorReg
namespace Go.Proofs.YtjdknaipmboekaaDoor
open Go.ChangeShapes Go.WideShapes Go.ChangeAt Go.RowKit Go.Joins

set_option maxRecDepth 100000 in
set_option maxHeartbeats 8000000 in
theorem ExactStoreAdd_walk (s : Int) (A : Option Addr) (c : Nat) (l : List HeaderD) (v : HeaderD) (hv1 : v.last.size ≤ maxLen) (hv2 : v.vals.size ≤ maxLen) (hv3 : v.next.size ≤ maxLen) (hv4 : v.data.size ≤ maxLen) (w : World) (hl : RdL headC 6 w w.heap.size A l.length c l) (hs : ∀ x ∈ l, x.last.size ≤ maxLen ∧ x.vals.size ≤ maxLen ∧ x.next.size ≤ maxLen ∧ x.data.size ≤ maxLen) (ht : Tab w) :
    Calls Tryd.prog 7 #[.agg #[.slice A l.length c, .int .i64 s], .agg #[.int .i64 v.h, .int .i64 v.t, .string v.last, .string v.vals, .string v.next, .string v.data]] w fun e w' => e = .returned (.bool true) ∧ Below w.heap.size w w' := by
  have HT := Lib.hid ht
  clear ht
  obtain ⟨s', lr, kv, hSP, hIM, hlr⟩ : ∃ (s' : Int) (lr : List HeaderD) (kv : Bool), (∀ (w : World) (A : Option Addr) (c : Nat), RdL headC 6 w w.heap.size A l.length c l → Calls Tryd.prog 25 #[.agg #[.slice A l.length c, .int .i64 s], .agg #[.int .i64 v.h, .int .i64 v.t, .string v.last, .string v.vals, .string v.next, .string v.data]] w (StoreOutK s' lr (.bool kv) w)) ∧
      (∀ (w : World) (A : Option Addr) (c : Nat), RdL headC 6 w w.heap.size A l.length c l → Tab w → Calls Tryd.prog 27 #[.agg #[.slice A l.length c, .int .i64 s], .agg #[.int .i64 v.h, .int .i64 v.t, .string v.last, .string v.vals, .string v.next, .string v.data]] w (StoreOutK s' lr (.bool kv) w)) ∧ lr.length ≤ l.length + 1 :=
    ⟨_, _, _, fun w A c h => sStoreAdd_any s A c l v w h, fun w A c h ht => StoreAdd_any s A c l v w h ht, StoreAdd_len s l v⟩
  have HL := Lib.hid hl
  have HSP := Lib.hid hSP
  have HIM := Lib.hid hIM
  have hn := hl.le
  clear hl hSP hIM
  go_enter Tryd.func7, Tryd.ntmps7
  go_wp2_with fail
  refine (szStore_any s A _ c _ l _ (?_) hs (by decide) (by decide)).mono ?_
  · refine RdL.more (B := w.heap.size) ?_ (by first | exact Nat.le_refl _ | (simp; done) | omega | (simp; omega))
    refine RdL.alloc ?_ (by first | exact Nat.le_refl _ | (simp; done) | omega | (simp; omega)) _
    refine RdL.alloc ?_ (by first | exact Nat.le_refl _ | (simp; done) | omega | (simp; omega)) _
    exact HL.out
  rintro e w1 ⟨r, rfl, hr1, hr2, hr3, hb⟩
  have hs1 := hb.size
  (try simp only [World.size_alloc] at hs1)
  have C1 := Lib.hid ((((Chg.refl w.heap.size w.heap.size w).alloc _).alloc _).below_trans hb)
  have ya1 : ∀ o, w1.cell? ⟨w.heap.size, o, none⟩ = _ := fun o => hb.cell (p := ⟨w.heap.size, o, none⟩) (by first | exact Nat.le_refl _ | (simp; done) | omega | (simp; omega))
  have yv01 : ∀ o, w1.cell? ⟨w.heap.size + 1, o, none⟩ = _ := fun o => hb.cell (p := ⟨w.heap.size + 1, o, none⟩) (by first | exact Nat.le_refl _ | (simp; done) | omega | (simp; omega))
  have pa1 : w.heap.size < w1.heap.size := by omega
  have pv01 : w.heap.size + 1 < w1.heap.size := by omega
  have B1 : Hid (Below w.heap.size w w1) := C1.out.below (Nat.le_refl _) (Nat.le_refl _)
  clear hb
  by_cases hr : r < 0
  · go_wp2_with fail
    go_ret
    exact ⟨rfl, B1.out⟩
  have hn1 : l.length ≤ 1048576 := by have := hr1 (by omega); omega
  have hr0 : 0 ≤ r := by omega
  clear hr1 hr2
  go_wp2_with fail
  refine (szHeader_out _ _ _ _ _ _ r _ hv1 hv2 hv3 hv4 hr0 (by omega)).mono ?_
  rintro e w2 ⟨r2, rfl, _, hr2, hr3, hb⟩
  have hs2 := hb.size
  have C2 := Lib.hid ((Chg.refl w.heap.size w.heap.size w1).below_trans hb)
  have ya2 : ∀ o, w2.cell? ⟨w.heap.size, o, none⟩ = _ := fun o => (C2.out.cell (by omega) (by omega)).trans (ya1 o)
  have yv02 : ∀ o, w2.cell? ⟨w.heap.size + 1, o, none⟩ = _ := fun o => (C2.out.cell (by omega) (by omega)).trans (yv01 o)
  clear ya1 yv01
  have pa2 : w.heap.size < w2.heap.size := by omega
  have pv02 : w.heap.size + 1 < w2.heap.size := by omega
  have B2 : Hid (Below w.heap.size w w2) := B1.out.trans (C2.out.below (by omega) (by omega))
  clear hb
  by_cases hrr : r2 < 0
  · go_wp2_with fail
    go_ret
    exact ⟨rfl, B2.out⟩
  go_wp2_with fail
  go_upto_region 8 with fail
  go_cut [6, 7] (fun sp sk wx => ∃ q A c ga gb, sp = .pointer (some ⟨q, 0, none⟩) ∧ sk = (.bool kv) ∧ w2.heap.size ≤ q ∧ Blk wx q 29 #[.slice A lr.length c, .int .i64 s'] ∧ OwnL headC 6 34 wx ga gb A lr.length c lr ∧ w2.heap.size ≤ ga ∧ ga ≤ gb ∧ gb ≤ wx.heap.size ∧ (q < ga ∨ gb ≤ q) ∧ Below w2.heap.size w2 wx)
  case first =>
    refine wp_region_core [0, 1, 2, 3, 4, 5, 6, 7, 8, 9] (Below w2.heap.size w2) (fun j wa wb => match j with | 9 => BoxTurn 29 wa wb | _ => Below wa.heap.size wa wb) (fun i b w => match i with
      | 0 => b.tmps.getD 27 undef = (.agg #[.slice A l.length c, .int .i64 s])
      | 1 => ∃ A c, b.tmps.getD 28 undef = (.agg #[.slice A l.length c, .int .i64 s]) ∧ OwnL headC 6 34 w w2.heap.size w.heap.size A l.length c l
      | 2 => b.tmps.getD 29 undef = .agg #[.int .i64 v.h, .int .i64 v.t, .string v.last, .string v.vals, .string v.next, .string v.data]
      | 3 => b.tmps.getD 30 undef = .agg #[.int .i64 v.h, .int .i64 v.t, .string v.last, .string v.vals, .string v.next, .string v.data]
      | 4 => ∃ A c, b.tmps.getD 31 undef = .tuple #[(.agg #[.slice A lr.length c, .int .i64 s']), .bool kv] ∧ OwnL headC 6 34 w w2.heap.size w.heap.size A lr.length c lr
      | 5 => ∃ A c, b.tmps.getD 26 undef = .tuple #[(.agg #[.slice A lr.length c, .int .i64 s']), .bool kv] ∧ OwnL headC 6 34 w w2.heap.size w.heap.size A lr.length c lr
      | 6 => ∃ A c, b.tmps.getD 32 undef = (.agg #[.slice A lr.length c, .int .i64 s']) ∧ OwnL headC 6 34 w w2.heap.size w.heap.size A lr.length c lr
      | 7 => b.tmps.getD 33 undef = .bool kv
      | 8 => ∃ q cs, b.tmps.getD 6 undef = .pointer (some ⟨q, 0, none⟩) ∧ w2.heap.size ≤ q ∧ cs.size = 2 ∧ Blk w q 29 cs
      | 9 => ∃ q A c, b.tmps.getD 6 undef = .pointer (some ⟨q, 0, none⟩) ∧ w2.heap.size ≤ q ∧ Blk w q 29 #[.slice A lr.length c, .int .i64 s'] ∧ OwnL headC 6 34 w w2.heap.size w.heap.size A lr.length c lr
      | _ => True) (by kernel_rfl) (by kernel_rfl) ((Below.refl _ _).drew) ?_ ?_ ?_
    · intro b wa wb i j oj v hi hj hij hoj hdep hE h
      simp only [List.mem_cons, List.not_mem_nil, or_false] at hi hj
      rcases hj with rfl | rfl | rfl | rfl | rfl | rfl | rfl | rfl | rfl | rfl
      all_goals obtain rfl := Option.some.inj hoj
      · rcases hi with rfl | rfl | rfl | rfl | rfl | rfl | rfl | rfl | rfl | rfl
        · exact absurd rfl hij
        · simp only at hE h ⊢; first | exact h | exact (put_getD_ne _ _ _ _ (by decide)).trans h | (obtain ⟨A, c, e, h⟩ := h; first | exact ⟨A, c, (put_getD_ne _ _ _ _ (by decide)).trans e, (h.below hE (Nat.le_refl _)).wide (Nat.le_refl _) hE.size⟩ | exact ⟨A, c, e, hE.row (by decide) h⟩) | (obtain ⟨q, cs, e, h1, h2, h3⟩ := h; first | exact ⟨q, cs, (put_getD_ne _ _ _ _ (by decide)).trans e, h1, h2, h3.below hE h3.lt⟩ | (obtain ⟨cs', g1, g2⟩ := hE.box h3; exact ⟨q, cs', e, h1, g1.trans h2, g2⟩)) | (obtain ⟨q, A, c, e, h1, h2, h3⟩ := h; exact ⟨q, A, c, (put_getD_ne _ _ _ _ (by decide)).trans e, h1, h2.below hE h2.lt, (h3.below hE (Nat.le_refl _)).wide (Nat.le_refl _) hE.size⟩)
        · simp only at hE h ⊢; first | exact h | exact (put_getD_ne _ _ _ _ (by decide)).trans h | (obtain ⟨A, c, e, h⟩ := h; first | exact ⟨A, c, (put_getD_ne _ _ _ _ (by decide)).trans e, (h.below hE (Nat.le_refl _)).wide (Nat.le_refl _) hE.size⟩ | exact ⟨A, c, e, hE.row (by decide) h⟩) | (obtain ⟨q, cs, e, h1, h2, h3⟩ := h; first | exact ⟨q, cs, (put_getD_ne _ _ _ _ (by decide)).trans e, h1, h2, h3.below hE h3.lt⟩ | (obtain ⟨cs', g1, g2⟩ := hE.box h3; exact ⟨q, cs', e, h1, g1.trans h2, g2⟩)) | (obtain ⟨q, A, c, e, h1, h2, h3⟩ := h; exact ⟨q, A, c, (put_getD_ne _ _ _ _ (by decide)).trans e, h1, h2.below hE h2.lt, (h3.below hE (Nat.le_refl _)).wide (Nat.le_refl _) hE.size⟩)
        · simp only at hE h ⊢; first | exact h | exact (put_getD_ne _ _ _ _ (by decide)).trans h | (obtain ⟨A, c, e, h⟩ := h; first | exact ⟨A, c, (put_getD_ne _ _ _ _ (by decide)).trans e, (h.below hE (Nat.le_refl _)).wide (Nat.le_refl _) hE.size⟩ | exact ⟨A, c, e, hE.row (by decide) h⟩) | (obtain ⟨q, cs, e, h1, h2, h3⟩ := h; first | exact ⟨q, cs, (put_getD_ne _ _ _ _ (by decide)).trans e, h1, h2, h3.below hE h3.lt⟩ | (obtain ⟨cs', g1, g2⟩ := hE.box h3; exact ⟨q, cs', e, h1, g1.trans h2, g2⟩)) | (obtain ⟨q, A, c, e, h1, h2, h3⟩ := h; exact ⟨q, A, c, (put_getD_ne _ _ _ _ (by decide)).trans e, h1, h2.below hE h2.lt, (h3.below hE (Nat.le_refl _)).wide (Nat.le_refl _) hE.size⟩)
        · simp only at hE h ⊢; first | exact h | exact (put_getD_ne _ _ _ _ (by decide)).trans h | (obtain ⟨A, c, e, h⟩ := h; first | exact ⟨A, c, (put_getD_ne _ _ _ _ (by decide)).trans e, (h.below hE (Nat.le_refl _)).wide (Nat.le_refl _) hE.size⟩ | exact ⟨A, c, e, hE.row (by decide) h⟩) | (obtain ⟨q, cs, e, h1, h2, h3⟩ := h; first | exact ⟨q, cs, (put_getD_ne _ _ _ _ (by decide)).trans e, h1, h2, h3.below hE h3.lt⟩ | (obtain ⟨cs', g1, g2⟩ := hE.box h3; exact ⟨q, cs', e, h1, g1.trans h2, g2⟩)) | (obtain ⟨q, A, c, e, h1, h2, h3⟩ := h; exact ⟨q, A, c, (put_getD_ne _ _ _ _ (by decide)).trans e, h1, h2.below hE h2.lt, (h3.below hE (Nat.le_refl _)).wide (Nat.le_refl _) hE.size⟩)
        · simp only at hE h ⊢; first | exact h | exact (put_getD_ne _ _ _ _ (by decide)).trans h | (obtain ⟨A, c, e, h⟩ := h; first | exact ⟨A, c, (put_getD_ne _ _ _ _ (by decide)).trans e, (h.below hE (Nat.le_refl _)).wide (Nat.le_refl _) hE.size⟩ | exact ⟨A, c, e, hE.row (by decide) h⟩) | (obtain ⟨q, cs, e, h1, h2, h3⟩ := h; first | exact ⟨q, cs, (put_getD_ne _ _ _ _ (by decide)).trans e, h1, h2, h3.below hE h3.lt⟩ | (obtain ⟨cs', g1, g2⟩ := hE.box h3; exact ⟨q, cs', e, h1, g1.trans h2, g2⟩)) | (obtain ⟨q, A, c, e, h1, h2, h3⟩ := h; exact ⟨q, A, c, (put_getD_ne _ _ _ _ (by decide)).trans e, h1, h2.below hE h2.lt, (h3.below hE (Nat.le_refl _)).wide (Nat.le_refl _) hE.size⟩)
        · simp only at hE h ⊢; first | exact h | exact (put_getD_ne _ _ _ _ (by decide)).trans h | (obtain ⟨A, c, e, h⟩ := h; first | exact ⟨A, c, (put_getD_ne _ _ _ _ (by decide)).trans e, (h.below hE (Nat.le_refl _)).wide (Nat.le_refl _) hE.size⟩ | exact ⟨A, c, e, hE.row (by decide) h⟩) | (obtain ⟨q, cs, e, h1, h2, h3⟩ := h; first | exact ⟨q, cs, (put_getD_ne _ _ _ _ (by decide)).trans e, h1, h2, h3.below hE h3.lt⟩ | (obtain ⟨cs', g1, g2⟩ := hE.box h3; exact ⟨q, cs', e, h1, g1.trans h2, g2⟩)) | (obtain ⟨q, A, c, e, h1, h2, h3⟩ := h; exact ⟨q, A, c, (put_getD_ne _ _ _ _ (by decide)).trans e, h1, h2.below hE h2.lt, (h3.below hE (Nat.le_refl _)).wide (Nat.le_refl _) hE.size⟩)
        · simp only at hE h ⊢; first | exact h | exact (put_getD_ne _ _ _ _ (by decide)).trans h | (obtain ⟨A, c, e, h⟩ := h; first | exact ⟨A, c, (put_getD_ne _ _ _ _ (by decide)).trans e, (h.below hE (Nat.le_refl _)).wide (Nat.le_refl _) hE.size⟩ | exact ⟨A, c, e, hE.row (by decide) h⟩) | (obtain ⟨q, cs, e, h1, h2, h3⟩ := h; first | exact ⟨q, cs, (put_getD_ne _ _ _ _ (by decide)).trans e, h1, h2, h3.below hE h3.lt⟩ | (obtain ⟨cs', g1, g2⟩ := hE.box h3; exact ⟨q, cs', e, h1, g1.trans h2, g2⟩)) | (obtain ⟨q, A, c, e, h1, h2, h3⟩ := h; exact ⟨q, A, c, (put_getD_ne _ _ _ _ (by decide)).trans e, h1, h2.below hE h2.lt, (h3.below hE (Nat.le_refl _)).wide (Nat.le_refl _) hE.size⟩)
        · simp only at hE h ⊢; first | exact h | exact (put_getD_ne _ _ _ _ (by decide)).trans h | (obtain ⟨A, c, e, h⟩ := h; first | exact ⟨A, c, (put_getD_ne _ _ _ _ (by decide)).trans e, (h.below hE (Nat.le_refl _)).wide (Nat.le_refl _) hE.size⟩ | exact ⟨A, c, e, hE.row (by decide) h⟩) | (obtain ⟨q, cs, e, h1, h2, h3⟩ := h; first | exact ⟨q, cs, (put_getD_ne _ _ _ _ (by decide)).trans e, h1, h2, h3.below hE h3.lt⟩ | (obtain ⟨cs', g1, g2⟩ := hE.box h3; exact ⟨q, cs', e, h1, g1.trans h2, g2⟩)) | (obtain ⟨q, A, c, e, h1, h2, h3⟩ := h; exact ⟨q, A, c, (put_getD_ne _ _ _ _ (by decide)).trans e, h1, h2.below hE h2.lt, (h3.below hE (Nat.le_refl _)).wide (Nat.le_refl _) hE.size⟩)
        · simp only at hE h ⊢; first | exact h | exact (put_getD_ne _ _ _ _ (by decide)).trans h | (obtain ⟨A, c, e, h⟩ := h; first | exact ⟨A, c, (put_getD_ne _ _ _ _ (by decide)).trans e, (h.below hE (Nat.le_refl _)).wide (Nat.le_refl _) hE.size⟩ | exact ⟨A, c, e, hE.row (by decide) h⟩) | (obtain ⟨q, cs, e, h1, h2, h3⟩ := h; first | exact ⟨q, cs, (put_getD_ne _ _ _ _ (by decide)).trans e, h1, h2, h3.below hE h3.lt⟩ | (obtain ⟨cs', g1, g2⟩ := hE.box h3; exact ⟨q, cs', e, h1, g1.trans h2, g2⟩)) | (obtain ⟨q, A, c, e, h1, h2, h3⟩ := h; exact ⟨q, A, c, (put_getD_ne _ _ _ _ (by decide)).trans e, h1, h2.below hE h2.lt, (h3.below hE (Nat.le_refl _)).wide (Nat.le_refl _) hE.size⟩)
      · rcases hi with rfl | rfl | rfl | rfl | rfl | rfl | rfl | rfl | rfl | rfl
        · simp only at hE h ⊢; first | exact h | exact (put_getD_ne _ _ _ _ (by decide)).trans h | (obtain ⟨A, c, e, h⟩ := h; first | exact ⟨A, c, (put_getD_ne _ _ _ _ (by decide)).trans e, (h.below hE (Nat.le_refl _)).wide (Nat.le_refl _) hE.size⟩ | exact ⟨A, c, e, hE.row (by decide) h⟩) | (obtain ⟨q, cs, e, h1, h2, h3⟩ := h; first | exact ⟨q, cs, (put_getD_ne _ _ _ _ (by decide)).trans e, h1, h2, h3.below hE h3.lt⟩ | (obtain ⟨cs', g1, g2⟩ := hE.box h3; exact ⟨q, cs', e, h1, g1.trans h2, g2⟩)) | (obtain ⟨q, A, c, e, h1, h2, h3⟩ := h; exact ⟨q, A, c, (put_getD_ne _ _ _ _ (by decide)).trans e, h1, h2.below hE h2.lt, (h3.below hE (Nat.le_refl _)).wide (Nat.le_refl _) hE.size⟩)
        · exact absurd rfl hij
        · simp only at hE h ⊢; first | exact h | exact (put_getD_ne _ _ _ _ (by decide)).trans h | (obtain ⟨A, c, e, h⟩ := h; first | exact ⟨A, c, (put_getD_ne _ _ _ _ (by decide)).trans e, (h.below hE (Nat.le_refl _)).wide (Nat.le_refl _) hE.size⟩ | exact ⟨A, c, e, hE.row (by decide) h⟩) | (obtain ⟨q, cs, e, h1, h2, h3⟩ := h; first | exact ⟨q, cs, (put_getD_ne _ _ _ _ (by decide)).trans e, h1, h2, h3.below hE h3.lt⟩ | (obtain ⟨cs', g1, g2⟩ := hE.box h3; exact ⟨q, cs', e, h1, g1.trans h2, g2⟩)) | (obtain ⟨q, A, c, e, h1, h2, h3⟩ := h; exact ⟨q, A, c, (put_getD_ne _ _ _ _ (by decide)).trans e, h1, h2.below hE h2.lt, (h3.below hE (Nat.le_refl _)).wide (Nat.le_refl _) hE.size⟩)
        · simp only at hE h ⊢; first | exact h | exact (put_getD_ne _ _ _ _ (by decide)).trans h | (obtain ⟨A, c, e, h⟩ := h; first | exact ⟨A, c, (put_getD_ne _ _ _ _ (by decide)).trans e, (h.below hE (Nat.le_refl _)).wide (Nat.le_refl _) hE.size⟩ | exact ⟨A, c, e, hE.row (by decide) h⟩) | (obtain ⟨q, cs, e, h1, h2, h3⟩ := h; first | exact ⟨q, cs, (put_getD_ne _ _ _ _ (by decide)).trans e, h1, h2, h3.below hE h3.lt⟩ | (obtain ⟨cs', g1, g2⟩ := hE.box h3; exact ⟨q, cs', e, h1, g1.trans h2, g2⟩)) | (obtain ⟨q, A, c, e, h1, h2, h3⟩ := h; exact ⟨q, A, c, (put_getD_ne _ _ _ _ (by decide)).trans e, h1, h2.below hE h2.lt, (h3.below hE (Nat.le_refl _)).wide (Nat.le_refl _) hE.size⟩)
        · simp only at hE h ⊢; first | exact h | exact (put_getD_ne _ _ _ _ (by decide)).trans h | (obtain ⟨A, c, e, h⟩ := h; first | exact ⟨A, c, (put_getD_ne _ _ _ _ (by decide)).trans e, (h.below hE (Nat.le_refl _)).wide (Nat.le_refl _) hE.size⟩ | exact ⟨A, c, e, hE.row (by decide) h⟩) | (obtain ⟨q, cs, e, h1, h2, h3⟩ := h; first | exact ⟨q, cs, (put_getD_ne _ _ _ _ (by decide)).trans e, h1, h2, h3.below hE h3.lt⟩ | (obtain ⟨cs', g1, g2⟩ := hE.box h3; exact ⟨q, cs', e, h1, g1.trans h2, g2⟩)) | (obtain ⟨q, A, c, e, h1, h2, h3⟩ := h; exact ⟨q, A, c, (put_getD_ne _ _ _ _ (by decide)).trans e, h1, h2.below hE h2.lt, (h3.below hE (Nat.le_refl _)).wide (Nat.le_refl _) hE.size⟩)
        · simp only at hE h ⊢; first | exact h | exact (put_getD_ne _ _ _ _ (by decide)).trans h | (obtain ⟨A, c, e, h⟩ := h; first | exact ⟨A, c, (put_getD_ne _ _ _ _ (by decide)).trans e, (h.below hE (Nat.le_refl _)).wide (Nat.le_refl _) hE.size⟩ | exact ⟨A, c, e, hE.row (by decide) h⟩) | (obtain ⟨q, cs, e, h1, h2, h3⟩ := h; first | exact ⟨q, cs, (put_getD_ne _ _ _ _ (by decide)).trans e, h1, h2, h3.below hE h3.lt⟩ | (obtain ⟨cs', g1, g2⟩ := hE.box h3; exact ⟨q, cs', e, h1, g1.trans h2, g2⟩)) | (obtain ⟨q, A, c, e, h1, h2, h3⟩ := h; exact ⟨q, A, c, (put_getD_ne _ _ _ _ (by decide)).trans e, h1, h2.below hE h2.lt, (h3.below hE (Nat.le_refl _)).wide (Nat.le_refl _) hE.size⟩)
        · simp only at hE h ⊢; first | exact h | exact (put_getD_ne _ _ _ _ (by decide)).trans h | (obtain ⟨A, c, e, h⟩ := h; first | exact ⟨A, c, (put_getD_ne _ _ _ _ (by decide)).trans e, (h.below hE (Nat.le_refl _)).wide (Nat.le_refl _) hE.size⟩ | exact ⟨A, c, e, hE.row (by decide) h⟩) | (obtain ⟨q, cs, e, h1, h2, h3⟩ := h; first | exact ⟨q, cs, (put_getD_ne _ _ _ _ (by decide)).trans e, h1, h2, h3.below hE h3.lt⟩ | (obtain ⟨cs', g1, g2⟩ := hE.box h3; exact ⟨q, cs', e, h1, g1.trans h2, g2⟩)) | (obtain ⟨q, A, c, e, h1, h2, h3⟩ := h; exact ⟨q, A, c, (put_getD_ne _ _ _ _ (by decide)).trans e, h1, h2.below hE h2.lt, (h3.below hE (Nat.le_refl _)).wide (Nat.le_refl _) hE.size⟩)
        · simp only at hE h ⊢; first | exact h | exact (put_getD_ne _ _ _ _ (by decide)).trans h | (obtain ⟨A, c, e, h⟩ := h; first | exact ⟨A, c, (put_getD_ne _ _ _ _ (by decide)).trans e, (h.below hE (Nat.le_refl _)).wide (Nat.le_refl _) hE.size⟩ | exact ⟨A, c, e, hE.row (by decide) h⟩) | (obtain ⟨q, cs, e, h1, h2, h3⟩ := h; first | exact ⟨q, cs, (put_getD_ne _ _ _ _ (by decide)).trans e, h1, h2, h3.below hE h3.lt⟩ | (obtain ⟨cs', g1, g2⟩ := hE.box h3; exact ⟨q, cs', e, h1, g1.trans h2, g2⟩)) | (obtain ⟨q, A, c, e, h1, h2, h3⟩ := h; exact ⟨q, A, c, (put_getD_ne _ _ _ _ (by decide)).trans e, h1, h2.below hE h2.lt, (h3.below hE (Nat.le_refl _)).wide (Nat.le_refl _) hE.size⟩)
        · simp only at hE h ⊢; first | exact h | exact (put_getD_ne _ _ _ _ (by decide)).trans h | (obtain ⟨A, c, e, h⟩ := h; first | exact ⟨A, c, (put_getD_ne _ _ _ _ (by decide)).trans e, (h.below hE (Nat.le_refl _)).wide (Nat.le_refl _) hE.size⟩ | exact ⟨A, c, e, hE.row (by decide) h⟩) | (obtain ⟨q, cs, e, h1, h2, h3⟩ := h; first | exact ⟨q, cs, (put_getD_ne _ _ _ _ (by decide)).trans e, h1, h2, h3.below hE h3.lt⟩ | (obtain ⟨cs', g1, g2⟩ := hE.box h3; exact ⟨q, cs', e, h1, g1.trans h2, g2⟩)) | (obtain ⟨q, A, c, e, h1, h2, h3⟩ := h; exact ⟨q, A, c, (put_getD_ne _ _ _ _ (by decide)).trans e, h1, h2.below hE h2.lt, (h3.below hE (Nat.le_refl _)).wide (Nat.le_refl _) hE.size⟩)
        · simp only at hE h ⊢; first | exact h | exact (put_getD_ne _ _ _ _ (by decide)).trans h | (obtain ⟨A, c, e, h⟩ := h; first | exact ⟨A, c, (put_getD_ne _ _ _ _ (by decide)).trans e, (h.below hE (Nat.le_refl _)).wide (Nat.le_refl _) hE.size⟩ | exact ⟨A, c, e, hE.row (by decide) h⟩) | (obtain ⟨q, cs, e, h1, h2, h3⟩ := h; first | exact ⟨q, cs, (put_getD_ne _ _ _ _ (by decide)).trans e, h1, h2, h3.below hE h3.lt⟩ | (obtain ⟨cs', g1, g2⟩ := hE.box h3; exact ⟨q, cs', e, h1, g1.trans h2, g2⟩)) | (obtain ⟨q, A, c, e, h1, h2, h3⟩ := h; exact ⟨q, A, c, (put_getD_ne _ _ _ _ (by decide)).trans e, h1, h2.below hE h2.lt, (h3.below hE (Nat.le_refl _)).wide (Nat.le_refl _) hE.size⟩)
      · rcases hi with rfl | rfl | rfl | rfl | rfl | rfl | rfl | rfl | rfl | rfl
        · simp only at hE h ⊢; first | exact h | exact (put_getD_ne _ _ _ _ (by decide)).trans h | (obtain ⟨A, c, e, h⟩ := h; first | exact ⟨A, c, (put_getD_ne _ _ _ _ (by decide)).trans e, (h.below hE (Nat.le_refl _)).wide (Nat.le_refl _) hE.size⟩ | exact ⟨A, c, e, hE.row (by decide) h⟩) | (obtain ⟨q, cs, e, h1, h2, h3⟩ := h; first | exact ⟨q, cs, (put_getD_ne _ _ _ _ (by decide)).trans e, h1, h2, h3.below hE h3.lt⟩ | (obtain ⟨cs', g1, g2⟩ := hE.box h3; exact ⟨q, cs', e, h1, g1.trans h2, g2⟩)) | (obtain ⟨q, A, c, e, h1, h2, h3⟩ := h; exact ⟨q, A, c, (put_getD_ne _ _ _ _ (by decide)).trans e, h1, h2.below hE h2.lt, (h3.below hE (Nat.le_refl _)).wide (Nat.le_refl _) hE.size⟩)
        · simp only at hE h ⊢; first | exact h | exact (put_getD_ne _ _ _ _ (by decide)).trans h | (obtain ⟨A, c, e, h⟩ := h; first | exact ⟨A, c, (put_getD_ne _ _ _ _ (by decide)).trans e, (h.below hE (Nat.le_refl _)).wide (Nat.le_refl _) hE.size⟩ | exact ⟨A, c, e, hE.row (by decide) h⟩) | (obtain ⟨q, cs, e, h1, h2, h3⟩ := h; first | exact ⟨q, cs, (put_getD_ne _ _ _ _ (by decide)).trans e, h1, h2, h3.below hE h3.lt⟩ | (obtain ⟨cs', g1, g2⟩ := hE.box h3; exact ⟨q, cs', e, h1, g1.trans h2, g2⟩)) | (obtain ⟨q, A, c, e, h1, h2, h3⟩ := h; exact ⟨q, A, c, (put_getD_ne _ _ _ _ (by decide)).trans e, h1, h2.below hE h2.lt, (h3.below hE (Nat.le_refl _)).wide (Nat.le_refl _) hE.size⟩)
        · exact absurd rfl hij
        · simp only at hE h ⊢; first | exact h | exact (put_getD_ne _ _ _ _ (by decide)).trans h | (obtain ⟨A, c, e, h⟩ := h; first | exact ⟨A, c, (put_getD_ne _ _ _ _ (by decide)).trans e, (h.below hE (Nat.le_refl _)).wide (Nat.le_refl _) hE.size⟩ | exact ⟨A, c, e, hE.row (by decide) h⟩) | (obtain ⟨q, cs, e, h1, h2, h3⟩ := h; first | exact ⟨q, cs, (put_getD_ne _ _ _ _ (by decide)).trans e, h1, h2, h3.below hE h3.lt⟩ | (obtain ⟨cs', g1, g2⟩ := hE.box h3; exact ⟨q, cs', e, h1, g1.trans h2, g2⟩)) | (obtain ⟨q, A, c, e, h1, h2, h3⟩ := h; exact ⟨q, A, c, (put_getD_ne _ _ _ _ (by decide)).trans e, h1, h2.below hE h2.lt, (h3.below hE (Nat.le_refl _)).wide (Nat.le_refl _) hE.size⟩)
        · simp only at hE h ⊢; first | exact h | exact (put_getD_ne _ _ _ _ (by decide)).trans h | (obtain ⟨A, c, e, h⟩ := h; first | exact ⟨A, c, (put_getD_ne _ _ _ _ (by decide)).trans e, (h.below hE (Nat.le_refl _)).wide (Nat.le_refl _) hE.size⟩ | exact ⟨A, c, e, hE.row (by decide) h⟩) | (obtain ⟨q, cs, e, h1, h2, h3⟩ := h; first | exact ⟨q, cs, (put_getD_ne _ _ _ _ (by decide)).trans e, h1, h2, h3.below hE h3.lt⟩ | (obtain ⟨cs', g1, g2⟩ := hE.box h3; exact ⟨q, cs', e, h1, g1.trans h2, g2⟩)) | (obtain ⟨q, A, c, e, h1, h2, h3⟩ := h; exact ⟨q, A, c, (put_getD_ne _ _ _ _ (by decide)).trans e, h1, h2.below hE h2.lt, (h3.below hE (Nat.le_refl _)).wide (Nat.le_refl _) hE.size⟩)
        · simp only at hE h ⊢; first | exact h | exact (put_getD_ne _ _ _ _ (by decide)).trans h | (obtain ⟨A, c, e, h⟩ := h; first | exact ⟨A, c, (put_getD_ne _ _ _ _ (by decide)).trans e, (h.below hE (Nat.le_refl _)).wide (Nat.le_refl _) hE.size⟩ | exact ⟨A, c, e, hE.row (by decide) h⟩) | (obtain ⟨q, cs, e, h1, h2, h3⟩ := h; first | exact ⟨q, cs, (put_getD_ne _ _ _ _ (by decide)).trans e, h1, h2, h3.below hE h3.lt⟩ | (obtain ⟨cs', g1, g2⟩ := hE.box h3; exact ⟨q, cs', e, h1, g1.trans h2, g2⟩)) | (obtain ⟨q, A, c, e, h1, h2, h3⟩ := h; exact ⟨q, A, c, (put_getD_ne _ _ _ _ (by decide)).trans e, h1, h2.below hE h2.lt, (h3.below hE (Nat.le_refl _)).wide (Nat.le_refl _) hE.size⟩)
        · simp only at hE h ⊢; first | exact h | exact (put_getD_ne _ _ _ _ (by decide)).trans h | (obtain ⟨A, c, e, h⟩ := h; first | exact ⟨A, c, (put_getD_ne _ _ _ _ (by decide)).trans e, (h.below hE (Nat.le_refl _)).wide (Nat.le_refl _) hE.size⟩ | exact ⟨A, c, e, hE.row (by decide) h⟩) | (obtain ⟨q, cs, e, h1, h2, h3⟩ := h; first | exact ⟨q, cs, (put_getD_ne _ _ _ _ (by decide)).trans e, h1, h2, h3.below hE h3.lt⟩ | (obtain ⟨cs', g1, g2⟩ := hE.box h3; exact ⟨q, cs', e, h1, g1.trans h2, g2⟩)) | (obtain ⟨q, A, c, e, h1, h2, h3⟩ := h; exact ⟨q, A, c, (put_getD_ne _ _ _ _ (by decide)).trans e, h1, h2.below hE h2.lt, (h3.below hE (Nat.le_refl _)).wide (Nat.le_refl _) hE.size⟩)
        · simp only at hE h ⊢; first | exact h | exact (put_getD_ne _ _ _ _ (by decide)).trans h | (obtain ⟨A, c, e, h⟩ := h; first | exact ⟨A, c, (put_getD_ne _ _ _ _ (by decide)).trans e, (h.below hE (Nat.le_refl _)).wide (Nat.le_refl _) hE.size⟩ | exact ⟨A, c, e, hE.row (by decide) h⟩) | (obtain ⟨q, cs, e, h1, h2, h3⟩ := h; first | exact ⟨q, cs, (put_getD_ne _ _ _ _ (by decide)).trans e, h1, h2, h3.below hE h3.lt⟩ | (obtain ⟨cs', g1, g2⟩ := hE.box h3; exact ⟨q, cs', e, h1, g1.trans h2, g2⟩)) | (obtain ⟨q, A, c, e, h1, h2, h3⟩ := h; exact ⟨q, A, c, (put_getD_ne _ _ _ _ (by decide)).trans e, h1, h2.below hE h2.lt, (h3.below hE (Nat.le_refl _)).wide (Nat.le_refl _) hE.size⟩)
        · simp only at hE h ⊢; first | exact h | exact (put_getD_ne _ _ _ _ (by decide)).trans h | (obtain ⟨A, c, e, h⟩ := h; first | exact ⟨A, c, (put_getD_ne _ _ _ _ (by decide)).trans e, (h.below hE (Nat.le_refl _)).wide (Nat.le_refl _) hE.size⟩ | exact ⟨A, c, e, hE.row (by decide) h⟩) | (obtain ⟨q, cs, e, h1, h2, h3⟩ := h; first | exact ⟨q, cs, (put_getD_ne _ _ _ _ (by decide)).trans e, h1, h2, h3.below hE h3.lt⟩ | (obtain ⟨cs', g1, g2⟩ := hE.box h3; exact ⟨q, cs', e, h1, g1.trans h2, g2⟩)) | (obtain ⟨q, A, c, e, h1, h2, h3⟩ := h; exact ⟨q, A, c, (put_getD_ne _ _ _ _ (by decide)).trans e, h1, h2.below hE h2.lt, (h3.below hE (Nat.le_refl _)).wide (Nat.le_refl _) hE.size⟩)
        · simp only at hE h ⊢; first | exact h | exact (put_getD_ne _ _ _ _ (by decide)).trans h | (obtain ⟨A, c, e, h⟩ := h; first | exact ⟨A, c, (put_getD_ne _ _ _ _ (by decide)).trans e, (h.below hE (Nat.le_refl _)).wide (Nat.le_refl _) hE.size⟩ | exact ⟨A, c, e, hE.row (by decide) h⟩) | (obtain ⟨q, cs, e, h1, h2, h3⟩ := h; first | exact ⟨q, cs, (put_getD_ne _ _ _ _ (by decide)).trans e, h1, h2, h3.below hE h3.lt⟩ | (obtain ⟨cs', g1, g2⟩ := hE.box h3; exact ⟨q, cs', e, h1, g1.trans h2, g2⟩)) | (obtain ⟨q, A, c, e, h1, h2, h3⟩ := h; exact ⟨q, A, c, (put_getD_ne _ _ _ _ (by decide)).trans e, h1, h2.below hE h2.lt, (h3.below hE (Nat.le_refl _)).wide (Nat.le_refl _) hE.size⟩)
      · rcases hi with rfl | rfl | rfl | rfl | rfl | rfl | rfl | rfl | rfl | rfl
        · simp only at hE h ⊢; first | exact h | exact (put_getD_ne _ _ _ _ (by decide)).trans h | (obtain ⟨A, c, e, h⟩ := h; first | exact ⟨A, c, (put_getD_ne _ _ _ _ (by decide)).trans e, (h.below hE (Nat.le_refl _)).wide (Nat.le_refl _) hE.size⟩ | exact ⟨A, c, e, hE.row (by decide) h⟩) | (obtain ⟨q, cs, e, h1, h2, h3⟩ := h; first | exact ⟨q, cs, (put_getD_ne _ _ _ _ (by decide)).trans e, h1, h2, h3.below hE h3.lt⟩ | (obtain ⟨cs', g1, g2⟩ := hE.box h3; exact ⟨q, cs', e, h1, g1.trans h2, g2⟩)) | (obtain ⟨q, A, c, e, h1, h2, h3⟩ := h; exact ⟨q, A, c, (put_getD_ne _ _ _ _ (by decide)).trans e, h1, h2.below hE h2.lt, (h3.below hE (Nat.le_refl _)).wide (Nat.le_refl _) hE.size⟩)
        · simp only at hE h ⊢; first | exact h | exact (put_getD_ne _ _ _ _ (by decide)).trans h | (obtain ⟨A, c, e, h⟩ := h; first | exact ⟨A, c, (put_getD_ne _ _ _ _ (by decide)).trans e, (h.below hE (Nat.le_refl _)).wide (Nat.le_refl _) hE.size⟩ | exact ⟨A, c, e, hE.row (by decide) h⟩) | (obtain ⟨q, cs, e, h1, h2, h3⟩ := h; first | exact ⟨q, cs, (put_getD_ne _ _ _ _ (by decide)).trans e, h1, h2, h3.below hE h3.lt⟩ | (obtain ⟨cs', g1, g2⟩ := hE.box h3; exact ⟨q, cs', e, h1, g1.trans h2, g2⟩)) | (obtain ⟨q, A, c, e, h1, h2, h3⟩ := h; exact ⟨q, A, c, (put_getD_ne _ _ _ _ (by decide)).trans e, h1, h2.below hE h2.lt, (h3.below hE (Nat.le_refl _)).wide (Nat.le_refl _) hE.size⟩)
        · simp only at hE h ⊢; first | exact h | exact (put_getD_ne _ _ _ _ (by decide)).trans h | (obtain ⟨A, c, e, h⟩ := h; first | exact ⟨A, c, (put_getD_ne _ _ _ _ (by decide)).trans e, (h.below hE (Nat.le_refl _)).wide (Nat.le_refl _) hE.size⟩ | exact ⟨A, c, e, hE.row (by decide) h⟩) | (obtain ⟨q, cs, e, h1, h2, h3⟩ := h; first | exact ⟨q, cs, (put_getD_ne _ _ _ _ (by decide)).trans e, h1, h2, h3.below hE h3.lt⟩ | (obtain ⟨cs', g1, g2⟩ := hE.box h3; exact ⟨q, cs', e, h1, g1.trans h2, g2⟩)) | (obtain ⟨q, A, c, e, h1, h2, h3⟩ := h; exact ⟨q, A, c, (put_getD_ne _ _ _ _ (by decide)).trans e, h1, h2.below hE h2.lt, (h3.below hE (Nat.le_refl _)).wide (Nat.le_refl _) hE.size⟩)
        · exact absurd rfl hij
        · simp only at hE h ⊢; first | exact h | exact (put_getD_ne _ _ _ _ (by decide)).trans h | (obtain ⟨A, c, e, h⟩ := h; first | exact ⟨A, c, (put_getD_ne _ _ _ _ (by decide)).trans e, (h.below hE (Nat.le_refl _)).wide (Nat.le_refl _) hE.size⟩ | exact ⟨A, c, e, hE.row (by decide) h⟩) | (obtain ⟨q, cs, e, h1, h2, h3⟩ := h; first | exact ⟨q, cs, (put_getD_ne _ _ _ _ (by decide)).trans e, h1, h2, h3.below hE h3.lt⟩ | (obtain ⟨cs', g1, g2⟩ := hE.box h3; exact ⟨q, cs', e, h1, g1.trans h2, g2⟩)) | (obtain ⟨q, A, c, e, h1, h2, h3⟩ := h; exact ⟨q, A, c, (put_getD_ne _ _ _ _ (by decide)).trans e, h1, h2.below hE h2.lt, (h3.below hE (Nat.le_refl _)).wide (Nat.le_refl _) hE.size⟩)
        · simp only at hE h ⊢; first | exact h | exact (put_getD_ne _ _ _ _ (by decide)).trans h | (obtain ⟨A, c, e, h⟩ := h; first | exact ⟨A, c, (put_getD_ne _ _ _ _ (by decide)).trans e, (h.below hE (Nat.le_refl _)).wide (Nat.le_refl _) hE.size⟩ | exact ⟨A, c, e, hE.row (by decide) h⟩) | (obtain ⟨q, cs, e, h1, h2, h3⟩ := h; first | exact ⟨q, cs, (put_getD_ne _ _ _ _ (by decide)).trans e, h1, h2, h3.below hE h3.lt⟩ | (obtain ⟨cs', g1, g2⟩ := hE.box h3; exact ⟨q, cs', e, h1, g1.trans h2, g2⟩)) | (obtain ⟨q, A, c, e, h1, h2, h3⟩ := h; exact ⟨q, A, c, (put_getD_ne _ _ _ _ (by decide)).trans e, h1, h2.below hE h2.lt, (h3.below hE (Nat.le_refl _)).wide (Nat.le_refl _) hE.size⟩)
        · simp only at hE h ⊢; first | exact h | exact (put_getD_ne _ _ _ _ (by decide)).trans h | (obtain ⟨A, c, e, h⟩ := h; first | exact ⟨A, c, (put_getD_ne _ _ _ _ (by decide)).trans e, (h.below hE (Nat.le_refl _)).wide (Nat.le_refl _) hE.size⟩ | exact ⟨A, c, e, hE.row (by decide) h⟩) | (obtain ⟨q, cs, e, h1, h2, h3⟩ := h; first | exact ⟨q, cs, (put_getD_ne _ _ _ _ (by decide)).trans e, h1, h2, h3.below hE h3.lt⟩ | (obtain ⟨cs', g1, g2⟩ := hE.box h3; exact ⟨q, cs', e, h1, g1.trans h2, g2⟩)) | (obtain ⟨q, A, c, e, h1, h2, h3⟩ := h; exact ⟨q, A, c, (put_getD_ne _ _ _ _ (by decide)).trans e, h1, h2.below hE h2.lt, (h3.below hE (Nat.le_refl _)).wide (Nat.le_refl _) hE.size⟩)
        · simp only at hE h ⊢; first | exact h | exact (put_getD_ne _ _ _ _ (by decide)).trans h | (obtain ⟨A, c, e, h⟩ := h; first | exact ⟨A, c, (put_getD_ne _ _ _ _ (by decide)).trans e, (h.below hE (Nat.le_refl _)).wide (Nat.le_refl _) hE.size⟩ | exact ⟨A, c, e, hE.row (by decide) h⟩) | (obtain ⟨q, cs, e, h1, h2, h3⟩ := h; first | exact ⟨q, cs, (put_getD_ne _ _ _ _ (by decide)).trans e, h1, h2, h3.below hE h3.lt⟩ | (obtain ⟨cs', g1, g2⟩ := hE.box h3; exact ⟨q, cs', e, h1, g1.trans h2, g2⟩)) | (obtain ⟨q, A, c, e, h1, h2, h3⟩ := h; exact ⟨q, A, c, (put_getD_ne _ _ _ _ (by decide)).trans e, h1, h2.below hE h2.lt, (h3.below hE (Nat.le_refl _)).wide (Nat.le_refl _) hE.size⟩)
        · simp only at hE h ⊢; first | exact h | exact (put_getD_ne _ _ _ _ (by decide)).trans h | (obtain ⟨A, c, e, h⟩ := h; first | exact ⟨A, c, (put_getD_ne _ _ _ _ (by decide)).trans e, (h.below hE (Nat.le_refl _)).wide (Nat.le_refl _) hE.size⟩ | exact ⟨A, c, e, hE.row (by decide) h⟩) | (obtain ⟨q, cs, e, h1, h2, h3⟩ := h; first | exact ⟨q, cs, (put_getD_ne _ _ _ _ (by decide)).trans e, h1, h2, h3.below hE h3.lt⟩ | (obtain ⟨cs', g1, g2⟩ := hE.box h3; exact ⟨q, cs', e, h1, g1.trans h2, g2⟩)) | (obtain ⟨q, A, c, e, h1, h2, h3⟩ := h; exact ⟨q, A, c, (put_getD_ne _ _ _ _ (by decide)).trans e, h1, h2.below hE h2.lt, (h3.below hE (Nat.le_refl _)).wide (Nat.le_refl _) hE.size⟩)
        · simp only at hE h ⊢; first | exact h | exact (put_getD_ne _ _ _ _ (by decide)).trans h | (obtain ⟨A, c, e, h⟩ := h; first | exact ⟨A, c, (put_getD_ne _ _ _ _ (by decide)).trans e, (h.below hE (Nat.le_refl _)).wide (Nat.le_refl _) hE.size⟩ | exact ⟨A, c, e, hE.row (by decide) h⟩) | (obtain ⟨q, cs, e, h1, h2, h3⟩ := h; first | exact ⟨q, cs, (put_getD_ne _ _ _ _ (by decide)).trans e, h1, h2, h3.below hE h3.lt⟩ | (obtain ⟨cs', g1, g2⟩ := hE.box h3; exact ⟨q, cs', e, h1, g1.trans h2, g2⟩)) | (obtain ⟨q, A, c, e, h1, h2, h3⟩ := h; exact ⟨q, A, c, (put_getD_ne _ _ _ _ (by decide)).trans e, h1, h2.below hE h2.lt, (h3.below hE (Nat.le_refl _)).wide (Nat.le_refl _) hE.size⟩)
      · rcases hi with rfl | rfl | rfl | rfl | rfl | rfl | rfl | rfl | rfl | rfl
        · simp only at hE h ⊢; first | exact h | exact (put_getD_ne _ _ _ _ (by decide)).trans h | (obtain ⟨A, c, e, h⟩ := h; first | exact ⟨A, c, (put_getD_ne _ _ _ _ (by decide)).trans e, (h.below hE (Nat.le_refl _)).wide (Nat.le_refl _) hE.size⟩ | exact ⟨A, c, e, hE.row (by decide) h⟩) | (obtain ⟨q, cs, e, h1, h2, h3⟩ := h; first | exact ⟨q, cs, (put_getD_ne _ _ _ _ (by decide)).trans e, h1, h2, h3.below hE h3.lt⟩ | (obtain ⟨cs', g1, g2⟩ := hE.box h3; exact ⟨q, cs', e, h1, g1.trans h2, g2⟩)) | (obtain ⟨q, A, c, e, h1, h2, h3⟩ := h; exact ⟨q, A, c, (put_getD_ne _ _ _ _ (by decide)).trans e, h1, h2.below hE h2.lt, (h3.below hE (Nat.le_refl _)).wide (Nat.le_refl _) hE.size⟩)
        · simp only at hE h ⊢; first | exact h | exact (put_getD_ne _ _ _ _ (by decide)).trans h | (obtain ⟨A, c, e, h⟩ := h; first | exact ⟨A, c, (put_getD_ne _ _ _ _ (by decide)).trans e, (h.below hE (Nat.le_refl _)).wide (Nat.le_refl _) hE.size⟩ | exact ⟨A, c, e, hE.row (by decide) h⟩) | (obtain ⟨q, cs, e, h1, h2, h3⟩ := h; first | exact ⟨q, cs, (put_getD_ne _ _ _ _ (by decide)).trans e, h1, h2, h3.below hE h3.lt⟩ | (obtain ⟨cs', g1, g2⟩ := hE.box h3; exact ⟨q, cs', e, h1, g1.trans h2, g2⟩)) | (obtain ⟨q, A, c, e, h1, h2, h3⟩ := h; exact ⟨q, A, c, (put_getD_ne _ _ _ _ (by decide)).trans e, h1, h2.below hE h2.lt, (h3.below hE (Nat.le_refl _)).wide (Nat.le_refl _) hE.size⟩)
        · simp only at hE h ⊢; first | exact h | exact (put_getD_ne _ _ _ _ (by decide)).trans h | (obtain ⟨A, c, e, h⟩ := h; first | exact ⟨A, c, (put_getD_ne _ _ _ _ (by decide)).trans e, (h.below hE (Nat.le_refl _)).wide (Nat.le_refl _) hE.size⟩ | exact ⟨A, c, e, hE.row (by decide) h⟩) | (obtain ⟨q, cs, e, h1, h2, h3⟩ := h; first | exact ⟨q, cs, (put_getD_ne _ _ _ _ (by decide)).trans e, h1, h2, h3.below hE h3.lt⟩ | (obtain ⟨cs', g1, g2⟩ := hE.box h3; exact ⟨q, cs', e, h1, g1.trans h2, g2⟩)) | (obtain ⟨q, A, c, e, h1, h2, h3⟩ := h; exact ⟨q, A, c, (put_getD_ne _ _ _ _ (by decide)).trans e, h1, h2.below hE h2.lt, (h3.below hE (Nat.le_refl _)).wide (Nat.le_refl _) hE.size⟩)
        · simp only at hE h ⊢; first | exact h | exact (put_getD_ne _ _ _ _ (by decide)).trans h | (obtain ⟨A, c, e, h⟩ := h; first | exact ⟨A, c, (put_getD_ne _ _ _ _ (by decide)).trans e, (h.below hE (Nat.le_refl _)).wide (Nat.le_refl _) hE.size⟩ | exact ⟨A, c, e, hE.row (by decide) h⟩) | (obtain ⟨q, cs, e, h1, h2, h3⟩ := h; first | exact ⟨q, cs, (put_getD_ne _ _ _ _ (by decide)).trans e, h1, h2, h3.below hE h3.lt⟩ | (obtain ⟨cs', g1, g2⟩ := hE.box h3; exact ⟨q, cs', e, h1, g1.trans h2, g2⟩)) | (obtain ⟨q, A, c, e, h1, h2, h3⟩ := h; exact ⟨q, A, c, (put_getD_ne _ _ _ _ (by decide)).trans e, h1, h2.below hE h2.lt, (h3.below hE (Nat.le_refl _)).wide (Nat.le_refl _) hE.size⟩)
        · exact absurd rfl hij
        · simp only at hE h ⊢; first | exact h | exact (put_getD_ne _ _ _ _ (by decide)).trans h | (obtain ⟨A, c, e, h⟩ := h; first | exact ⟨A, c, (put_getD_ne _ _ _ _ (by decide)).trans e, (h.below hE (Nat.le_refl _)).wide (Nat.le_refl _) hE.size⟩ | exact ⟨A, c, e, hE.row (by decide) h⟩) | (obtain ⟨q, cs, e, h1, h2, h3⟩ := h; first | exact ⟨q, cs, (put_getD_ne _ _ _ _ (by decide)).trans e, h1, h2, h3.below hE h3.lt⟩ | (obtain ⟨cs', g1, g2⟩ := hE.box h3; exact ⟨q, cs', e, h1, g1.trans h2, g2⟩)) | (obtain ⟨q, A, c, e, h1, h2, h3⟩ := h; exact ⟨q, A, c, (put_getD_ne _ _ _ _ (by decide)).trans e, h1, h2.below hE h2.lt, (h3.below hE (Nat.le_refl _)).wide (Nat.le_refl _) hE.size⟩)
        · simp only at hE h ⊢; first | exact h | exact (put_getD_ne _ _ _ _ (by decide)).trans h | (obtain ⟨A, c, e, h⟩ := h; first | exact ⟨A, c, (put_getD_ne _ _ _ _ (by decide)).trans e, (h.below hE (Nat.le_refl _)).wide (Nat.le_refl _) hE.size⟩ | exact ⟨A, c, e, hE.row (by decide) h⟩) | (obtain ⟨q, cs, e, h1, h2, h3⟩ := h; first | exact ⟨q, cs, (put_getD_ne _ _ _ _ (by decide)).trans e, h1, h2, h3.below hE h3.lt⟩ | (obtain ⟨cs', g1, g2⟩ := hE.box h3; exact ⟨q, cs', e, h1, g1.trans h2, g2⟩)) | (obtain ⟨q, A, c, e, h1, h2, h3⟩ := h; exact ⟨q, A, c, (put_getD_ne _ _ _ _ (by decide)).trans e, h1, h2.below hE h2.lt, (h3.below hE (Nat.le_refl _)).wide (Nat.le_refl _) hE.size⟩)
        · simp only at hE h ⊢; first | exact h | exact (put_getD_ne _ _ _ _ (by decide)).trans h | (obtain ⟨A, c, e, h⟩ := h; first | exact ⟨A, c, (put_getD_ne _ _ _ _ (by decide)).trans e, (h.below hE (Nat.le_refl _)).wide (Nat.le_refl _) hE.size⟩ | exact ⟨A, c, e, hE.row (by decide) h⟩) | (obtain ⟨q, cs, e, h1, h2, h3⟩ := h; first | exact ⟨q, cs, (put_getD_ne _ _ _ _ (by decide)).trans e, h1, h2, h3.below hE h3.lt⟩ | (obtain ⟨cs', g1, g2⟩ := hE.box h3; exact ⟨q, cs', e, h1, g1.trans h2, g2⟩)) | (obtain ⟨q, A, c, e, h1, h2, h3⟩ := h; exact ⟨q, A, c, (put_getD_ne _ _ _ _ (by decide)).trans e, h1, h2.below hE h2.lt, (h3.below hE (Nat.le_refl _)).wide (Nat.le_refl _) hE.size⟩)
        · simp only at hE h ⊢; first | exact h | exact (put_getD_ne _ _ _ _ (by decide)).trans h | (obtain ⟨A, c, e, h⟩ := h; first | exact ⟨A, c, (put_getD_ne _ _ _ _ (by decide)).trans e, (h.below hE (Nat.le_refl _)).wide (Nat.le_refl _) hE.size⟩ | exact ⟨A, c, e, hE.row (by decide) h⟩) | (obtain ⟨q, cs, e, h1, h2, h3⟩ := h; first | exact ⟨q, cs, (put_getD_ne _ _ _ _ (by decide)).trans e, h1, h2, h3.below hE h3.lt⟩ | (obtain ⟨cs', g1, g2⟩ := hE.box h3; exact ⟨q, cs', e, h1, g1.trans h2, g2⟩)) | (obtain ⟨q, A, c, e, h1, h2, h3⟩ := h; exact ⟨q, A, c, (put_getD_ne _ _ _ _ (by decide)).trans e, h1, h2.below hE h2.lt, (h3.below hE (Nat.le_refl _)).wide (Nat.le_refl _) hE.size⟩)
        · simp only at hE h ⊢; first | exact h | exact (put_getD_ne _ _ _ _ (by decide)).trans h | (obtain ⟨A, c, e, h⟩ := h; first | exact ⟨A, c, (put_getD_ne _ _ _ _ (by decide)).trans e, (h.below hE (Nat.le_refl _)).wide (Nat.le_refl _) hE.size⟩ | exact ⟨A, c, e, hE.row (by decide) h⟩) | (obtain ⟨q, cs, e, h1, h2, h3⟩ := h; first | exact ⟨q, cs, (put_getD_ne _ _ _ _ (by decide)).trans e, h1, h2, h3.below hE h3.lt⟩ | (obtain ⟨cs', g1, g2⟩ := hE.box h3; exact ⟨q, cs', e, h1, g1.trans h2, g2⟩)) | (obtain ⟨q, A, c, e, h1, h2, h3⟩ := h; exact ⟨q, A, c, (put_getD_ne _ _ _ _ (by decide)).trans e, h1, h2.below hE h2.lt, (h3.below hE (Nat.le_refl _)).wide (Nat.le_refl _) hE.size⟩)
      · rcases hi with rfl | rfl | rfl | rfl | rfl | rfl | rfl | rfl | rfl | rfl
        · simp only at hE h ⊢; first | exact h | exact (put_getD_ne _ _ _ _ (by decide)).trans h | (obtain ⟨A, c, e, h⟩ := h; first | exact ⟨A, c, (put_getD_ne _ _ _ _ (by decide)).trans e, (h.below hE (Nat.le_refl _)).wide (Nat.le_refl _) hE.size⟩ | exact ⟨A, c, e, hE.row (by decide) h⟩) | (obtain ⟨q, cs, e, h1, h2, h3⟩ := h; first | exact ⟨q, cs, (put_getD_ne _ _ _ _ (by decide)).trans e, h1, h2, h3.below hE h3.lt⟩ | (obtain ⟨cs', g1, g2⟩ := hE.box h3; exact ⟨q, cs', e, h1, g1.trans h2, g2⟩)) | (obtain ⟨q, A, c, e, h1, h2, h3⟩ := h; exact ⟨q, A, c, (put_getD_ne _ _ _ _ (by decide)).trans e, h1, h2.below hE h2.lt, (h3.below hE (Nat.le_refl _)).wide (Nat.le_refl _) hE.size⟩)
        · simp only at hE h ⊢; first | exact h | exact (put_getD_ne _ _ _ _ (by decide)).trans h | (obtain ⟨A, c, e, h⟩ := h; first | exact ⟨A, c, (put_getD_ne _ _ _ _ (by decide)).trans e, (h.below hE (Nat.le_refl _)).wide (Nat.le_refl _) hE.size⟩ | exact ⟨A, c, e, hE.row (by decide) h⟩) | (obtain ⟨q, cs, e, h1, h2, h3⟩ := h; first | exact ⟨q, cs, (put_getD_ne _ _ _ _ (by decide)).trans e, h1, h2, h3.below hE h3.lt⟩ | (obtain ⟨cs', g1, g2⟩ := hE.box h3; exact ⟨q, cs', e, h1, g1.trans h2, g2⟩)) | (obtain ⟨q, A, c, e, h1, h2, h3⟩ := h; exact ⟨q, A, c, (put_getD_ne _ _ _ _ (by decide)).trans e, h1, h2.below hE h2.lt, (h3.below hE (Nat.le_refl _)).wide (Nat.le_refl _) hE.size⟩)
        · simp only at hE h ⊢; first | exact h | exact (put_getD_ne _ _ _ _ (by decide)).trans h | (obtain ⟨A, c, e, h⟩ := h; first | exact ⟨A, c, (put_getD_ne _ _ _ _ (by decide)).trans e, (h.below hE (Nat.le_refl _)).wide (Nat.le_refl _) hE.size⟩ | exact ⟨A, c, e, hE.row (by decide) h⟩) | (obtain ⟨q, cs, e, h1, h2, h3⟩ := h; first | exact ⟨q, cs, (put_getD_ne _ _ _ _ (by decide)).trans e, h1, h2, h3.below hE h3.lt⟩ | (obtain ⟨cs', g1, g2⟩ := hE.box h3; exact ⟨q, cs', e, h1, g1.trans h2, g2⟩)) | (obtain ⟨q, A, c, e, h1, h2, h3⟩ := h; exact ⟨q, A, c, (put_getD_ne _ _ _ _ (by decide)).trans e, h1, h2.below hE h2.lt, (h3.below hE (Nat.le_refl _)).wide (Nat.le_refl _) hE.size⟩)
        · simp only at hE h ⊢; first | exact h | exact (put_getD_ne _ _ _ _ (by decide)).trans h | (obtain ⟨A, c, e, h⟩ := h; first | exact ⟨A, c, (put_getD_ne _ _ _ _ (by decide)).trans e, (h.below hE (Nat.le_refl _)).wide (Nat.le_refl _) hE.size⟩ | exact ⟨A, c, e, hE.row (by decide) h⟩) | (obtain ⟨q, cs, e, h1, h2, h3⟩ := h; first | exact ⟨q, cs, (put_getD_ne _ _ _ _ (by decide)).trans e, h1, h2, h3.below hE h3.lt⟩ | (obtain ⟨cs', g1, g2⟩ := hE.box h3; exact ⟨q, cs', e, h1, g1.trans h2, g2⟩)) | (obtain ⟨q, A, c, e, h1, h2, h3⟩ := h; exact ⟨q, A, c, (put_getD_ne _ _ _ _ (by decide)).trans e, h1, h2.below hE h2.lt, (h3.below hE (Nat.le_refl _)).wide (Nat.le_refl _) hE.size⟩)
        · simp only at hE h ⊢; first | exact h | exact (put_getD_ne _ _ _ _ (by decide)).trans h | (obtain ⟨A, c, e, h⟩ := h; first | exact ⟨A, c, (put_getD_ne _ _ _ _ (by decide)).trans e, (h.below hE (Nat.le_refl _)).wide (Nat.le_refl _) hE.size⟩ | exact ⟨A, c, e, hE.row (by decide) h⟩) | (obtain ⟨q, cs, e, h1, h2, h3⟩ := h; first | exact ⟨q, cs, (put_getD_ne _ _ _ _ (by decide)).trans e, h1, h2, h3.below hE h3.lt⟩ | (obtain ⟨cs', g1, g2⟩ := hE.box h3; exact ⟨q, cs', e, h1, g1.trans h2, g2⟩)) | (obtain ⟨q, A, c, e, h1, h2, h3⟩ := h; exact ⟨q, A, c, (put_getD_ne _ _ _ _ (by decide)).trans e, h1, h2.below hE h2.lt, (h3.below hE (Nat.le_refl _)).wide (Nat.le_refl _) hE.size⟩)
        · exact absurd rfl hij
        · simp only at hE h ⊢; first | exact h | exact (put_getD_ne _ _ _ _ (by decide)).trans h | (obtain ⟨A, c, e, h⟩ := h; first | exact ⟨A, c, (put_getD_ne _ _ _ _ (by decide)).trans e, (h.below hE (Nat.le_refl _)).wide (Nat.le_refl _) hE.size⟩ | exact ⟨A, c, e, hE.row (by decide) h⟩) | (obtain ⟨q, cs, e, h1, h2, h3⟩ := h; first | exact ⟨q, cs, (put_getD_ne _ _ _ _ (by decide)).trans e, h1, h2, h3.below hE h3.lt⟩ | (obtain ⟨cs', g1, g2⟩ := hE.box h3; exact ⟨q, cs', e, h1, g1.trans h2, g2⟩)) | (obtain ⟨q, A, c, e, h1, h2, h3⟩ := h; exact ⟨q, A, c, (put_getD_ne _ _ _ _ (by decide)).trans e, h1, h2.below hE h2.lt, (h3.below hE (Nat.le_refl _)).wide (Nat.le_refl _) hE.size⟩)
        · simp only at hE h ⊢; first | exact h | exact (put_getD_ne _ _ _ _ (by decide)).trans h | (obtain ⟨A, c, e, h⟩ := h; first | exact ⟨A, c, (put_getD_ne _ _ _ _ (by decide)).trans e, (h.below hE (Nat.le_refl _)).wide (Nat.le_refl _) hE.size⟩ | exact ⟨A, c, e, hE.row (by decide) h⟩) | (obtain ⟨q, cs, e, h1, h2, h3⟩ := h; first | exact ⟨q, cs, (put_getD_ne _ _ _ _ (by decide)).trans e, h1, h2, h3.below hE h3.lt⟩ | (obtain ⟨cs', g1, g2⟩ := hE.box h3; exact ⟨q, cs', e, h1, g1.trans h2, g2⟩)) | (obtain ⟨q, A, c, e, h1, h2, h3⟩ := h; exact ⟨q, A, c, (put_getD_ne _ _ _ _ (by decide)).trans e, h1, h2.below hE h2.lt, (h3.below hE (Nat.le_refl _)).wide (Nat.le_refl _) hE.size⟩)
        · simp only at hE h ⊢; first | exact h | exact (put_getD_ne _ _ _ _ (by decide)).trans h | (obtain ⟨A, c, e, h⟩ := h; first | exact ⟨A, c, (put_getD_ne _ _ _ _ (by decide)).trans e, (h.below hE (Nat.le_refl _)).wide (Nat.le_refl _) hE.size⟩ | exact ⟨A, c, e, hE.row (by decide) h⟩) | (obtain ⟨q, cs, e, h1, h2, h3⟩ := h; first | exact ⟨q, cs, (put_getD_ne _ _ _ _ (by decide)).trans e, h1, h2, h3.below hE h3.lt⟩ | (obtain ⟨cs', g1, g2⟩ := hE.box h3; exact ⟨q, cs', e, h1, g1.trans h2, g2⟩)) | (obtain ⟨q, A, c, e, h1, h2, h3⟩ := h; exact ⟨q, A, c, (put_getD_ne _ _ _ _ (by decide)).trans e, h1, h2.below hE h2.lt, (h3.below hE (Nat.le_refl _)).wide (Nat.le_refl _) hE.size⟩)
        · simp only at hE h ⊢; first | exact h | exact (put_getD_ne _ _ _ _ (by decide)).trans h | (obtain ⟨A, c, e, h⟩ := h; first | exact ⟨A, c, (put_getD_ne _ _ _ _ (by decide)).trans e, (h.below hE (Nat.le_refl _)).wide (Nat.le_refl _) hE.size⟩ | exact ⟨A, c, e, hE.row (by decide) h⟩) | (obtain ⟨q, cs, e, h1, h2, h3⟩ := h; first | exact ⟨q, cs, (put_getD_ne _ _ _ _ (by decide)).trans e, h1, h2, h3.below hE h3.lt⟩ | (obtain ⟨cs', g1, g2⟩ := hE.box h3; exact ⟨q, cs', e, h1, g1.trans h2, g2⟩)) | (obtain ⟨q, A, c, e, h1, h2, h3⟩ := h; exact ⟨q, A, c, (put_getD_ne _ _ _ _ (by decide)).trans e, h1, h2.below hE h2.lt, (h3.below hE (Nat.le_refl _)).wide (Nat.le_refl _) hE.size⟩)
      · rcases hi with rfl | rfl | rfl | rfl | rfl | rfl | rfl | rfl | rfl | rfl
        · simp only at hE h ⊢; first | exact h | exact (put_getD_ne _ _ _ _ (by decide)).trans h | (obtain ⟨A, c, e, h⟩ := h; first | exact ⟨A, c, (put_getD_ne _ _ _ _ (by decide)).trans e, (h.below hE (Nat.le_refl _)).wide (Nat.le_refl _) hE.size⟩ | exact ⟨A, c, e, hE.row (by decide) h⟩) | (obtain ⟨q, cs, e, h1, h2, h3⟩ := h; first | exact ⟨q, cs, (put_getD_ne _ _ _ _ (by decide)).trans e, h1, h2, h3.below hE h3.lt⟩ | (obtain ⟨cs', g1, g2⟩ := hE.box h3; exact ⟨q, cs', e, h1, g1.trans h2, g2⟩)) | (obtain ⟨q, A, c, e, h1, h2, h3⟩ := h; exact ⟨q, A, c, (put_getD_ne _ _ _ _ (by decide)).trans e, h1, h2.below hE h2.lt, (h3.below hE (Nat.le_refl _)).wide (Nat.le_refl _) hE.size⟩)
        · simp only at hE h ⊢; first | exact h | exact (put_getD_ne _ _ _ _ (by decide)).trans h | (obtain ⟨A, c, e, h⟩ := h; first | exact ⟨A, c, (put_getD_ne _ _ _ _ (by decide)).trans e, (h.below hE (Nat.le_refl _)).wide (Nat.le_refl _) hE.size⟩ | exact ⟨A, c, e, hE.row (by decide) h⟩) | (obtain ⟨q, cs, e, h1, h2, h3⟩ := h; first | exact ⟨q, cs, (put_getD_ne _ _ _ _ (by decide)).trans e, h1, h2, h3.below hE h3.lt⟩ | (obtain ⟨cs', g1, g2⟩ := hE.box h3; exact ⟨q, cs', e, h1, g1.trans h2, g2⟩)) | (obtain ⟨q, A, c, e, h1, h2, h3⟩ := h; exact ⟨q, A, c, (put_getD_ne _ _ _ _ (by decide)).trans e, h1, h2.below hE h2.lt, (h3.below hE (Nat.le_refl _)).wide (Nat.le_refl _) hE.size⟩)
        · simp only at hE h ⊢; first | exact h | exact (put_getD_ne _ _ _ _ (by decide)).trans h | (obtain ⟨A, c, e, h⟩ := h; first | exact ⟨A, c, (put_getD_ne _ _ _ _ (by decide)).trans e, (h.below hE (Nat.le_refl _)).wide (Nat.le_refl _) hE.size⟩ | exact ⟨A, c, e, hE.row (by decide) h⟩) | (obtain ⟨q, cs, e, h1, h2, h3⟩ := h; first | exact ⟨q, cs, (put_getD_ne _ _ _ _ (by decide)).trans e, h1, h2, h3.below hE h3.lt⟩ | (obtain ⟨cs', g1, g2⟩ := hE.box h3; exact ⟨q, cs', e, h1, g1.trans h2, g2⟩)) | (obtain ⟨q, A, c, e, h1, h2, h3⟩ := h; exact ⟨q, A, c, (put_getD_ne _ _ _ _ (by decide)).trans e, h1, h2.below hE h2.lt, (h3.below hE (Nat.le_refl _)).wide (Nat.le_refl _) hE.size⟩)
        · simp only at hE h ⊢; first | exact h | exact (put_getD_ne _ _ _ _ (by decide)).trans h | (obtain ⟨A, c, e, h⟩ := h; first | exact ⟨A, c, (put_getD_ne _ _ _ _ (by decide)).trans e, (h.below hE (Nat.le_refl _)).wide (Nat.le_refl _) hE.size⟩ | exact ⟨A, c, e, hE.row (by decide) h⟩) | (obtain ⟨q, cs, e, h1, h2, h3⟩ := h; first | exact ⟨q, cs, (put_getD_ne _ _ _ _ (by decide)).trans e, h1, h2, h3.below hE h3.lt⟩ | (obtain ⟨cs', g1, g2⟩ := hE.box h3; exact ⟨q, cs', e, h1, g1.trans h2, g2⟩)) | (obtain ⟨q, A, c, e, h1, h2, h3⟩ := h; exact ⟨q, A, c, (put_getD_ne _ _ _ _ (by decide)).trans e, h1, h2.below hE h2.lt, (h3.below hE (Nat.le_refl _)).wide (Nat.le_refl _) hE.size⟩)
        · simp only at hE h ⊢; first | exact h | exact (put_getD_ne _ _ _ _ (by decide)).trans h | (obtain ⟨A, c, e, h⟩ := h; first | exact ⟨A, c, (put_getD_ne _ _ _ _ (by decide)).trans e, (h.below hE (Nat.le_refl _)).wide (Nat.le_refl _) hE.size⟩ | exact ⟨A, c, e, hE.row (by decide) h⟩) | (obtain ⟨q, cs, e, h1, h2, h3⟩ := h; first | exact ⟨q, cs, (put_getD_ne _ _ _ _ (by decide)).trans e, h1, h2, h3.below hE h3.lt⟩ | (obtain ⟨cs', g1, g2⟩ := hE.box h3; exact ⟨q, cs', e, h1, g1.trans h2, g2⟩)) | (obtain ⟨q, A, c, e, h1, h2, h3⟩ := h; exact ⟨q, A, c, (put_getD_ne _ _ _ _ (by decide)).trans e, h1, h2.below hE h2.lt, (h3.below hE (Nat.le_refl _)).wide (Nat.le_refl _) hE.size⟩)
        · simp only at hE h ⊢; first | exact h | exact (put_getD_ne _ _ _ _ (by decide)).trans h | (obtain ⟨A, c, e, h⟩ := h; first | exact ⟨A, c, (put_getD_ne _ _ _ _ (by decide)).trans e, (h.below hE (Nat.le_refl _)).wide (Nat.le_refl _) hE.size⟩ | exact ⟨A, c, e, hE.row (by decide) h⟩) | (obtain ⟨q, cs, e, h1, h2, h3⟩ := h; first | exact ⟨q, cs, (put_getD_ne _ _ _ _ (by decide)).trans e, h1, h2, h3.below hE h3.lt⟩ | (obtain ⟨cs', g1, g2⟩ := hE.box h3; exact ⟨q, cs', e, h1, g1.trans h2, g2⟩)) | (obtain ⟨q, A, c, e, h1, h2, h3⟩ := h; exact ⟨q, A, c, (put_getD_ne _ _ _ _ (by decide)).trans e, h1, h2.below hE h2.lt, (h3.below hE (Nat.le_refl _)).wide (Nat.le_refl _) hE.size⟩)
        · exact absurd rfl hij
        · simp only at hE h ⊢; first | exact h | exact (put_getD_ne _ _ _ _ (by decide)).trans h | (obtain ⟨A, c, e, h⟩ := h; first | exact ⟨A, c, (put_getD_ne _ _ _ _ (by decide)).trans e, (h.below hE (Nat.le_refl _)).wide (Nat.le_refl _) hE.size⟩ | exact ⟨A, c, e, hE.row (by decide) h⟩) | (obtain ⟨q, cs, e, h1, h2, h3⟩ := h; first | exact ⟨q, cs, (put_getD_ne _ _ _ _ (by decide)).trans e, h1, h2, h3.below hE h3.lt⟩ | (obtain ⟨cs', g1, g2⟩ := hE.box h3; exact ⟨q, cs', e, h1, g1.trans h2, g2⟩)) | (obtain ⟨q, A, c, e, h1, h2, h3⟩ := h; exact ⟨q, A, c, (put_getD_ne _ _ _ _ (by decide)).trans e, h1, h2.below hE h2.lt, (h3.below hE (Nat.le_refl _)).wide (Nat.le_refl _) hE.size⟩)
        · simp only at hE h ⊢; first | exact h | exact (put_getD_ne _ _ _ _ (by decide)).trans h | (obtain ⟨A, c, e, h⟩ := h; first | exact ⟨A, c, (put_getD_ne _ _ _ _ (by decide)).trans e, (h.below hE (Nat.le_refl _)).wide (Nat.le_refl _) hE.size⟩ | exact ⟨A, c, e, hE.row (by decide) h⟩) | (obtain ⟨q, cs, e, h1, h2, h3⟩ := h; first | exact ⟨q, cs, (put_getD_ne _ _ _ _ (by decide)).trans e, h1, h2, h3.below hE h3.lt⟩ | (obtain ⟨cs', g1, g2⟩ := hE.box h3; exact ⟨q, cs', e, h1, g1.trans h2, g2⟩)) | (obtain ⟨q, A, c, e, h1, h2, h3⟩ := h; exact ⟨q, A, c, (put_getD_ne _ _ _ _ (by decide)).trans e, h1, h2.below hE h2.lt, (h3.below hE (Nat.le_refl _)).wide (Nat.le_refl _) hE.size⟩)
        · simp only at hE h ⊢; first | exact h | exact (put_getD_ne _ _ _ _ (by decide)).trans h | (obtain ⟨A, c, e, h⟩ := h; first | exact ⟨A, c, (put_getD_ne _ _ _ _ (by decide)).trans e, (h.below hE (Nat.le_refl _)).wide (Nat.le_refl _) hE.size⟩ | exact ⟨A, c, e, hE.row (by decide) h⟩) | (obtain ⟨q, cs, e, h1, h2, h3⟩ := h; first | exact ⟨q, cs, (put_getD_ne _ _ _ _ (by decide)).trans e, h1, h2, h3.below hE h3.lt⟩ | (obtain ⟨cs', g1, g2⟩ := hE.box h3; exact ⟨q, cs', e, h1, g1.trans h2, g2⟩)) | (obtain ⟨q, A, c, e, h1, h2, h3⟩ := h; exact ⟨q, A, c, (put_getD_ne _ _ _ _ (by decide)).trans e, h1, h2.below hE h2.lt, (h3.below hE (Nat.le_refl _)).wide (Nat.le_refl _) hE.size⟩)
      · rcases hi with rfl | rfl | rfl | rfl | rfl | rfl | rfl | rfl | rfl | rfl
        · simp only at hE h ⊢; first | exact h | exact (put_getD_ne _ _ _ _ (by decide)).trans h | (obtain ⟨A, c, e, h⟩ := h; first | exact ⟨A, c, (put_getD_ne _ _ _ _ (by decide)).trans e, (h.below hE (Nat.le_refl _)).wide (Nat.le_refl _) hE.size⟩ | exact ⟨A, c, e, hE.row (by decide) h⟩) | (obtain ⟨q, cs, e, h1, h2, h3⟩ := h; first | exact ⟨q, cs, (put_getD_ne _ _ _ _ (by decide)).trans e, h1, h2, h3.below hE h3.lt⟩ | (obtain ⟨cs', g1, g2⟩ := hE.box h3; exact ⟨q, cs', e, h1, g1.trans h2, g2⟩)) | (obtain ⟨q, A, c, e, h1, h2, h3⟩ := h; exact ⟨q, A, c, (put_getD_ne _ _ _ _ (by decide)).trans e, h1, h2.below hE h2.lt, (h3.below hE (Nat.le_refl _)).wide (Nat.le_refl _) hE.size⟩)
        · simp only at hE h ⊢; first | exact h | exact (put_getD_ne _ _ _ _ (by decide)).trans h | (obtain ⟨A, c, e, h⟩ := h; first | exact ⟨A, c, (put_getD_ne _ _ _ _ (by decide)).trans e, (h.below hE (Nat.le_refl _)).wide (Nat.le_refl _) hE.size⟩ | exact ⟨A, c, e, hE.row (by decide) h⟩) | (obtain ⟨q, cs, e, h1, h2, h3⟩ := h; first | exact ⟨q, cs, (put_getD_ne _ _ _ _ (by decide)).trans e, h1, h2, h3.below hE h3.lt⟩ | (obtain ⟨cs', g1, g2⟩ := hE.box h3; exact ⟨q, cs', e, h1, g1.trans h2, g2⟩)) | (obtain ⟨q, A, c, e, h1, h2, h3⟩ := h; exact ⟨q, A, c, (put_getD_ne _ _ _ _ (by decide)).trans e, h1, h2.below hE h2.lt, (h3.below hE (Nat.le_refl _)).wide (Nat.le_refl _) hE.size⟩)
        · simp only at hE h ⊢; first | exact h | exact (put_getD_ne _ _ _ _ (by decide)).trans h | (obtain ⟨A, c, e, h⟩ := h; first | exact ⟨A, c, (put_getD_ne _ _ _ _ (by decide)).trans e, (h.below hE (Nat.le_refl _)).wide (Nat.le_refl _) hE.size⟩ | exact ⟨A, c, e, hE.row (by decide) h⟩) | (obtain ⟨q, cs, e, h1, h2, h3⟩ := h; first | exact ⟨q, cs, (put_getD_ne _ _ _ _ (by decide)).trans e, h1, h2, h3.below hE h3.lt⟩ | (obtain ⟨cs', g1, g2⟩ := hE.box h3; exact ⟨q, cs', e, h1, g1.trans h2, g2⟩)) | (obtain ⟨q, A, c, e, h1, h2, h3⟩ := h; exact ⟨q, A, c, (put_getD_ne _ _ _ _ (by decide)).trans e, h1, h2.below hE h2.lt, (h3.below hE (Nat.le_refl _)).wide (Nat.le_refl _) hE.size⟩)
        · simp only at hE h ⊢; first | exact h | exact (put_getD_ne _ _ _ _ (by decide)).trans h | (obtain ⟨A, c, e, h⟩ := h; first | exact ⟨A, c, (put_getD_ne _ _ _ _ (by decide)).trans e, (h.below hE (Nat.le_refl _)).wide (Nat.le_refl _) hE.size⟩ | exact ⟨A, c, e, hE.row (by decide) h⟩) | (obtain ⟨q, cs, e, h1, h2, h3⟩ := h; first | exact ⟨q, cs, (put_getD_ne _ _ _ _ (by decide)).trans e, h1, h2, h3.below hE h3.lt⟩ | (obtain ⟨cs', g1, g2⟩ := hE.box h3; exact ⟨q, cs', e, h1, g1.trans h2, g2⟩)) | (obtain ⟨q, A, c, e, h1, h2, h3⟩ := h; exact ⟨q, A, c, (put_getD_ne _ _ _ _ (by decide)).trans e, h1, h2.below hE h2.lt, (h3.below hE (Nat.le_refl _)).wide (Nat.le_refl _) hE.size⟩)
        · simp only at hE h ⊢; first | exact h | exact (put_getD_ne _ _ _ _ (by decide)).trans h | (obtain ⟨A, c, e, h⟩ := h; first | exact ⟨A, c, (put_getD_ne _ _ _ _ (by decide)).trans e, (h.below hE (Nat.le_refl _)).wide (Nat.le_refl _) hE.size⟩ | exact ⟨A, c, e, hE.row (by decide) h⟩) | (obtain ⟨q, cs, e, h1, h2, h3⟩ := h; first | exact ⟨q, cs, (put_getD_ne _ _ _ _ (by decide)).trans e, h1, h2, h3.below hE h3.lt⟩ | (obtain ⟨cs', g1, g2⟩ := hE.box h3; exact ⟨q, cs', e, h1, g1.trans h2, g2⟩)) | (obtain ⟨q, A, c, e, h1, h2, h3⟩ := h; exact ⟨q, A, c, (put_getD_ne _ _ _ _ (by decide)).trans e, h1, h2.below hE h2.lt, (h3.below hE (Nat.le_refl _)).wide (Nat.le_refl _) hE.size⟩)
        · simp only at hE h ⊢; first | exact h | exact (put_getD_ne _ _ _ _ (by decide)).trans h | (obtain ⟨A, c, e, h⟩ := h; first | exact ⟨A, c, (put_getD_ne _ _ _ _ (by decide)).trans e, (h.below hE (Nat.le_refl _)).wide (Nat.le_refl _) hE.size⟩ | exact ⟨A, c, e, hE.row (by decide) h⟩) | (obtain ⟨q, cs, e, h1, h2, h3⟩ := h; first | exact ⟨q, cs, (put_getD_ne _ _ _ _ (by decide)).trans e, h1, h2, h3.below hE h3.lt⟩ | (obtain ⟨cs', g1, g2⟩ := hE.box h3; exact ⟨q, cs', e, h1, g1.trans h2, g2⟩)) | (obtain ⟨q, A, c, e, h1, h2, h3⟩ := h; exact ⟨q, A, c, (put_getD_ne _ _ _ _ (by decide)).trans e, h1, h2.below hE h2.lt, (h3.below hE (Nat.le_refl _)).wide (Nat.le_refl _) hE.size⟩)
        · simp only at hE h ⊢; first | exact h | exact (put_getD_ne _ _ _ _ (by decide)).trans h | (obtain ⟨A, c, e, h⟩ := h; first | exact ⟨A, c, (put_getD_ne _ _ _ _ (by decide)).trans e, (h.below hE (Nat.le_refl _)).wide (Nat.le_refl _) hE.size⟩ | exact ⟨A, c, e, hE.row (by decide) h⟩) | (obtain ⟨q, cs, e, h1, h2, h3⟩ := h; first | exact ⟨q, cs, (put_getD_ne _ _ _ _ (by decide)).trans e, h1, h2, h3.below hE h3.lt⟩ | (obtain ⟨cs', g1, g2⟩ := hE.box h3; exact ⟨q, cs', e, h1, g1.trans h2, g2⟩)) | (obtain ⟨q, A, c, e, h1, h2, h3⟩ := h; exact ⟨q, A, c, (put_getD_ne _ _ _ _ (by decide)).trans e, h1, h2.below hE h2.lt, (h3.below hE (Nat.le_refl _)).wide (Nat.le_refl _) hE.size⟩)
        · exact absurd rfl hij
        · simp only at hE h ⊢; first | exact h | exact (put_getD_ne _ _ _ _ (by decide)).trans h | (obtain ⟨A, c, e, h⟩ := h; first | exact ⟨A, c, (put_getD_ne _ _ _ _ (by decide)).trans e, (h.below hE (Nat.le_refl _)).wide (Nat.le_refl _) hE.size⟩ | exact ⟨A, c, e, hE.row (by decide) h⟩) | (obtain ⟨q, cs, e, h1, h2, h3⟩ := h; first | exact ⟨q, cs, (put_getD_ne _ _ _ _ (by decide)).trans e, h1, h2, h3.below hE h3.lt⟩ | (obtain ⟨cs', g1, g2⟩ := hE.box h3; exact ⟨q, cs', e, h1, g1.trans h2, g2⟩)) | (obtain ⟨q, A, c, e, h1, h2, h3⟩ := h; exact ⟨q, A, c, (put_getD_ne _ _ _ _ (by decide)).trans e, h1, h2.below hE h2.lt, (h3.below hE (Nat.le_refl _)).wide (Nat.le_refl _) hE.size⟩)
        · simp only at hE h ⊢; first | exact h | exact (put_getD_ne _ _ _ _ (by decide)).trans h | (obtain ⟨A, c, e, h⟩ := h; first | exact ⟨A, c, (put_getD_ne _ _ _ _ (by decide)).trans e, (h.below hE (Nat.le_refl _)).wide (Nat.le_refl _) hE.size⟩ | exact ⟨A, c, e, hE.row (by decide) h⟩) | (obtain ⟨q, cs, e, h1, h2, h3⟩ := h; first | exact ⟨q, cs, (put_getD_ne _ _ _ _ (by decide)).trans e, h1, h2, h3.below hE h3.lt⟩ | (obtain ⟨cs', g1, g2⟩ := hE.box h3; exact ⟨q, cs', e, h1, g1.trans h2, g2⟩)) | (obtain ⟨q, A, c, e, h1, h2, h3⟩ := h; exact ⟨q, A, c, (put_getD_ne _ _ _ _ (by decide)).trans e, h1, h2.below hE h2.lt, (h3.below hE (Nat.le_refl _)).wide (Nat.le_refl _) hE.size⟩)
      · rcases hi with rfl | rfl | rfl | rfl | rfl | rfl | rfl | rfl | rfl | rfl
        · simp only at hE h ⊢; first | exact h | exact (put_getD_ne _ _ _ _ (by decide)).trans h | (obtain ⟨A, c, e, h⟩ := h; first | exact ⟨A, c, (put_getD_ne _ _ _ _ (by decide)).trans e, (h.below hE (Nat.le_refl _)).wide (Nat.le_refl _) hE.size⟩ | exact ⟨A, c, e, hE.row (by decide) h⟩) | (obtain ⟨q, cs, e, h1, h2, h3⟩ := h; first | exact ⟨q, cs, (put_getD_ne _ _ _ _ (by decide)).trans e, h1, h2, h3.below hE h3.lt⟩ | (obtain ⟨cs', g1, g2⟩ := hE.box h3; exact ⟨q, cs', e, h1, g1.trans h2, g2⟩)) | (obtain ⟨q, A, c, e, h1, h2, h3⟩ := h; exact ⟨q, A, c, (put_getD_ne _ _ _ _ (by decide)).trans e, h1, h2.below hE h2.lt, (h3.below hE (Nat.le_refl _)).wide (Nat.le_refl _) hE.size⟩)
        · simp only at hE h ⊢; first | exact h | exact (put_getD_ne _ _ _ _ (by decide)).trans h | (obtain ⟨A, c, e, h⟩ := h; first | exact ⟨A, c, (put_getD_ne _ _ _ _ (by decide)).trans e, (h.below hE (Nat.le_refl _)).wide (Nat.le_refl _) hE.size⟩ | exact ⟨A, c, e, hE.row (by decide) h⟩) | (obtain ⟨q, cs, e, h1, h2, h3⟩ := h; first | exact ⟨q, cs, (put_getD_ne _ _ _ _ (by decide)).trans e, h1, h2, h3.below hE h3.lt⟩ | (obtain ⟨cs', g1, g2⟩ := hE.box h3; exact ⟨q, cs', e, h1, g1.trans h2, g2⟩)) | (obtain ⟨q, A, c, e, h1, h2, h3⟩ := h; exact ⟨q, A, c, (put_getD_ne _ _ _ _ (by decide)).trans e, h1, h2.below hE h2.lt, (h3.below hE (Nat.le_refl _)).wide (Nat.le_refl _) hE.size⟩)
        · simp only at hE h ⊢; first | exact h | exact (put_getD_ne _ _ _ _ (by decide)).trans h | (obtain ⟨A, c, e, h⟩ := h; first | exact ⟨A, c, (put_getD_ne _ _ _ _ (by decide)).trans e, (h.below hE (Nat.le_refl _)).wide (Nat.le_refl _) hE.size⟩ | exact ⟨A, c, e, hE.row (by decide) h⟩) | (obtain ⟨q, cs, e, h1, h2, h3⟩ := h; first | exact ⟨q, cs, (put_getD_ne _ _ _ _ (by decide)).trans e, h1, h2, h3.below hE h3.lt⟩ | (obtain ⟨cs', g1, g2⟩ := hE.box h3; exact ⟨q, cs', e, h1, g1.trans h2, g2⟩)) | (obtain ⟨q, A, c, e, h1, h2, h3⟩ := h; exact ⟨q, A, c, (put_getD_ne _ _ _ _ (by decide)).trans e, h1, h2.below hE h2.lt, (h3.below hE (Nat.le_refl _)).wide (Nat.le_refl _) hE.size⟩)
        · simp only at hE h ⊢; first | exact h | exact (put_getD_ne _ _ _ _ (by decide)).trans h | (obtain ⟨A, c, e, h⟩ := h; first | exact ⟨A, c, (put_getD_ne _ _ _ _ (by decide)).trans e, (h.below hE (Nat.le_refl _)).wide (Nat.le_refl _) hE.size⟩ | exact ⟨A, c, e, hE.row (by decide) h⟩) | (obtain ⟨q, cs, e, h1, h2, h3⟩ := h; first | exact ⟨q, cs, (put_getD_ne _ _ _ _ (by decide)).trans e, h1, h2, h3.below hE h3.lt⟩ | (obtain ⟨cs', g1, g2⟩ := hE.box h3; exact ⟨q, cs', e, h1, g1.trans h2, g2⟩)) | (obtain ⟨q, A, c, e, h1, h2, h3⟩ := h; exact ⟨q, A, c, (put_getD_ne _ _ _ _ (by decide)).trans e, h1, h2.below hE h2.lt, (h3.below hE (Nat.le_refl _)).wide (Nat.le_refl _) hE.size⟩)
        · simp only at hE h ⊢; first | exact h | exact (put_getD_ne _ _ _ _ (by decide)).trans h | (obtain ⟨A, c, e, h⟩ := h; first | exact ⟨A, c, (put_getD_ne _ _ _ _ (by decide)).trans e, (h.below hE (Nat.le_refl _)).wide (Nat.le_refl _) hE.size⟩ | exact ⟨A, c, e, hE.row (by decide) h⟩) | (obtain ⟨q, cs, e, h1, h2, h3⟩ := h; first | exact ⟨q, cs, (put_getD_ne _ _ _ _ (by decide)).trans e, h1, h2, h3.below hE h3.lt⟩ | (obtain ⟨cs', g1, g2⟩ := hE.box h3; exact ⟨q, cs', e, h1, g1.trans h2, g2⟩)) | (obtain ⟨q, A, c, e, h1, h2, h3⟩ := h; exact ⟨q, A, c, (put_getD_ne _ _ _ _ (by decide)).trans e, h1, h2.below hE h2.lt, (h3.below hE (Nat.le_refl _)).wide (Nat.le_refl _) hE.size⟩)
        · simp only at hE h ⊢; first | exact h | exact (put_getD_ne _ _ _ _ (by decide)).trans h | (obtain ⟨A, c, e, h⟩ := h; first | exact ⟨A, c, (put_getD_ne _ _ _ _ (by decide)).trans e, (h.below hE (Nat.le_refl _)).wide (Nat.le_refl _) hE.size⟩ | exact ⟨A, c, e, hE.row (by decide) h⟩) | (obtain ⟨q, cs, e, h1, h2, h3⟩ := h; first | exact ⟨q, cs, (put_getD_ne _ _ _ _ (by decide)).trans e, h1, h2, h3.below hE h3.lt⟩ | (obtain ⟨cs', g1, g2⟩ := hE.box h3; exact ⟨q, cs', e, h1, g1.trans h2, g2⟩)) | (obtain ⟨q, A, c, e, h1, h2, h3⟩ := h; exact ⟨q, A, c, (put_getD_ne _ _ _ _ (by decide)).trans e, h1, h2.below hE h2.lt, (h3.below hE (Nat.le_refl _)).wide (Nat.le_refl _) hE.size⟩)
        · simp only at hE h ⊢; first | exact h | exact (put_getD_ne _ _ _ _ (by decide)).trans h | (obtain ⟨A, c, e, h⟩ := h; first | exact ⟨A, c, (put_getD_ne _ _ _ _ (by decide)).trans e, (h.below hE (Nat.le_refl _)).wide (Nat.le_refl _) hE.size⟩ | exact ⟨A, c, e, hE.row (by decide) h⟩) | (obtain ⟨q, cs, e, h1, h2, h3⟩ := h; first | exact ⟨q, cs, (put_getD_ne _ _ _ _ (by decide)).trans e, h1, h2, h3.below hE h3.lt⟩ | (obtain ⟨cs', g1, g2⟩ := hE.box h3; exact ⟨q, cs', e, h1, g1.trans h2, g2⟩)) | (obtain ⟨q, A, c, e, h1, h2, h3⟩ := h; exact ⟨q, A, c, (put_getD_ne _ _ _ _ (by decide)).trans e, h1, h2.below hE h2.lt, (h3.below hE (Nat.le_refl _)).wide (Nat.le_refl _) hE.size⟩)
        · simp only at hE h ⊢; first | exact h | exact (put_getD_ne _ _ _ _ (by decide)).trans h | (obtain ⟨A, c, e, h⟩ := h; first | exact ⟨A, c, (put_getD_ne _ _ _ _ (by decide)).trans e, (h.below hE (Nat.le_refl _)).wide (Nat.le_refl _) hE.size⟩ | exact ⟨A, c, e, hE.row (by decide) h⟩) | (obtain ⟨q, cs, e, h1, h2, h3⟩ := h; first | exact ⟨q, cs, (put_getD_ne _ _ _ _ (by decide)).trans e, h1, h2, h3.below hE h3.lt⟩ | (obtain ⟨cs', g1, g2⟩ := hE.box h3; exact ⟨q, cs', e, h1, g1.trans h2, g2⟩)) | (obtain ⟨q, A, c, e, h1, h2, h3⟩ := h; exact ⟨q, A, c, (put_getD_ne _ _ _ _ (by decide)).trans e, h1, h2.below hE h2.lt, (h3.below hE (Nat.le_refl _)).wide (Nat.le_refl _) hE.size⟩)
        · exact absurd rfl hij
        · exact absurd rfl (hdep _ rfl ⟨8, .data⟩ (by simp) rfl)
      · rcases hi with rfl | rfl | rfl | rfl | rfl | rfl | rfl | rfl | rfl | rfl
        · simp only at hE h ⊢; first | exact h | exact (put_getD_ne _ _ _ _ (by decide)).trans h | (obtain ⟨A, c, e, h⟩ := h; first | exact ⟨A, c, (put_getD_ne _ _ _ _ (by decide)).trans e, (h.below hE (Nat.le_refl _)).wide (Nat.le_refl _) hE.size⟩ | exact ⟨A, c, e, hE.row (by decide) h⟩) | (obtain ⟨q, cs, e, h1, h2, h3⟩ := h; first | exact ⟨q, cs, (put_getD_ne _ _ _ _ (by decide)).trans e, h1, h2, h3.below hE h3.lt⟩ | (obtain ⟨cs', g1, g2⟩ := hE.box h3; exact ⟨q, cs', e, h1, g1.trans h2, g2⟩)) | (obtain ⟨q, A, c, e, h1, h2, h3⟩ := h; exact ⟨q, A, c, (put_getD_ne _ _ _ _ (by decide)).trans e, h1, h2.below hE h2.lt, (h3.below hE (Nat.le_refl _)).wide (Nat.le_refl _) hE.size⟩)
        · simp only at hE h ⊢; first | exact h | exact (put_getD_ne _ _ _ _ (by decide)).trans h | (obtain ⟨A, c, e, h⟩ := h; first | exact ⟨A, c, (put_getD_ne _ _ _ _ (by decide)).trans e, (h.below hE (Nat.le_refl _)).wide (Nat.le_refl _) hE.size⟩ | exact ⟨A, c, e, hE.row (by decide) h⟩) | (obtain ⟨q, cs, e, h1, h2, h3⟩ := h; first | exact ⟨q, cs, (put_getD_ne _ _ _ _ (by decide)).trans e, h1, h2, h3.below hE h3.lt⟩ | (obtain ⟨cs', g1, g2⟩ := hE.box h3; exact ⟨q, cs', e, h1, g1.trans h2, g2⟩)) | (obtain ⟨q, A, c, e, h1, h2, h3⟩ := h; exact ⟨q, A, c, (put_getD_ne _ _ _ _ (by decide)).trans e, h1, h2.below hE h2.lt, (h3.below hE (Nat.le_refl _)).wide (Nat.le_refl _) hE.size⟩)
        · simp only at hE h ⊢; first | exact h | exact (put_getD_ne _ _ _ _ (by decide)).trans h | (obtain ⟨A, c, e, h⟩ := h; first | exact ⟨A, c, (put_getD_ne _ _ _ _ (by decide)).trans e, (h.below hE (Nat.le_refl _)).wide (Nat.le_refl _) hE.size⟩ | exact ⟨A, c, e, hE.row (by decide) h⟩) | (obtain ⟨q, cs, e, h1, h2, h3⟩ := h; first | exact ⟨q, cs, (put_getD_ne _ _ _ _ (by decide)).trans e, h1, h2, h3.below hE h3.lt⟩ | (obtain ⟨cs', g1, g2⟩ := hE.box h3; exact ⟨q, cs', e, h1, g1.trans h2, g2⟩)) | (obtain ⟨q, A, c, e, h1, h2, h3⟩ := h; exact ⟨q, A, c, (put_getD_ne _ _ _ _ (by decide)).trans e, h1, h2.below hE h2.lt, (h3.below hE (Nat.le_refl _)).wide (Nat.le_refl _) hE.size⟩)
        · simp only at hE h ⊢; first | exact h | exact (put_getD_ne _ _ _ _ (by decide)).trans h | (obtain ⟨A, c, e, h⟩ := h; first | exact ⟨A, c, (put_getD_ne _ _ _ _ (by decide)).trans e, (h.below hE (Nat.le_refl _)).wide (Nat.le_refl _) hE.size⟩ | exact ⟨A, c, e, hE.row (by decide) h⟩) | (obtain ⟨q, cs, e, h1, h2, h3⟩ := h; first | exact ⟨q, cs, (put_getD_ne _ _ _ _ (by decide)).trans e, h1, h2, h3.below hE h3.lt⟩ | (obtain ⟨cs', g1, g2⟩ := hE.box h3; exact ⟨q, cs', e, h1, g1.trans h2, g2⟩)) | (obtain ⟨q, A, c, e, h1, h2, h3⟩ := h; exact ⟨q, A, c, (put_getD_ne _ _ _ _ (by decide)).trans e, h1, h2.below hE h2.lt, (h3.below hE (Nat.le_refl _)).wide (Nat.le_refl _) hE.size⟩)
        · simp only at hE h ⊢; first | exact h | exact (put_getD_ne _ _ _ _ (by decide)).trans h | (obtain ⟨A, c, e, h⟩ := h; first | exact ⟨A, c, (put_getD_ne _ _ _ _ (by decide)).trans e, (h.below hE (Nat.le_refl _)).wide (Nat.le_refl _) hE.size⟩ | exact ⟨A, c, e, hE.row (by decide) h⟩) | (obtain ⟨q, cs, e, h1, h2, h3⟩ := h; first | exact ⟨q, cs, (put_getD_ne _ _ _ _ (by decide)).trans e, h1, h2, h3.below hE h3.lt⟩ | (obtain ⟨cs', g1, g2⟩ := hE.box h3; exact ⟨q, cs', e, h1, g1.trans h2, g2⟩)) | (obtain ⟨q, A, c, e, h1, h2, h3⟩ := h; exact ⟨q, A, c, (put_getD_ne _ _ _ _ (by decide)).trans e, h1, h2.below hE h2.lt, (h3.below hE (Nat.le_refl _)).wide (Nat.le_refl _) hE.size⟩)
        · simp only at hE h ⊢; first | exact h | exact (put_getD_ne _ _ _ _ (by decide)).trans h | (obtain ⟨A, c, e, h⟩ := h; first | exact ⟨A, c, (put_getD_ne _ _ _ _ (by decide)).trans e, (h.below hE (Nat.le_refl _)).wide (Nat.le_refl _) hE.size⟩ | exact ⟨A, c, e, hE.row (by decide) h⟩) | (obtain ⟨q, cs, e, h1, h2, h3⟩ := h; first | exact ⟨q, cs, (put_getD_ne _ _ _ _ (by decide)).trans e, h1, h2, h3.below hE h3.lt⟩ | (obtain ⟨cs', g1, g2⟩ := hE.box h3; exact ⟨q, cs', e, h1, g1.trans h2, g2⟩)) | (obtain ⟨q, A, c, e, h1, h2, h3⟩ := h; exact ⟨q, A, c, (put_getD_ne _ _ _ _ (by decide)).trans e, h1, h2.below hE h2.lt, (h3.below hE (Nat.le_refl _)).wide (Nat.le_refl _) hE.size⟩)
        · simp only at hE h ⊢; first | exact h | exact (put_getD_ne _ _ _ _ (by decide)).trans h | (obtain ⟨A, c, e, h⟩ := h; first | exact ⟨A, c, (put_getD_ne _ _ _ _ (by decide)).trans e, (h.below hE (Nat.le_refl _)).wide (Nat.le_refl _) hE.size⟩ | exact ⟨A, c, e, hE.row (by decide) h⟩) | (obtain ⟨q, cs, e, h1, h2, h3⟩ := h; first | exact ⟨q, cs, (put_getD_ne _ _ _ _ (by decide)).trans e, h1, h2, h3.below hE h3.lt⟩ | (obtain ⟨cs', g1, g2⟩ := hE.box h3; exact ⟨q, cs', e, h1, g1.trans h2, g2⟩)) | (obtain ⟨q, A, c, e, h1, h2, h3⟩ := h; exact ⟨q, A, c, (put_getD_ne _ _ _ _ (by decide)).trans e, h1, h2.below hE h2.lt, (h3.below hE (Nat.le_refl _)).wide (Nat.le_refl _) hE.size⟩)
        · simp only at hE h ⊢; first | exact h | exact (put_getD_ne _ _ _ _ (by decide)).trans h | (obtain ⟨A, c, e, h⟩ := h; first | exact ⟨A, c, (put_getD_ne _ _ _ _ (by decide)).trans e, (h.below hE (Nat.le_refl _)).wide (Nat.le_refl _) hE.size⟩ | exact ⟨A, c, e, hE.row (by decide) h⟩) | (obtain ⟨q, cs, e, h1, h2, h3⟩ := h; first | exact ⟨q, cs, (put_getD_ne _ _ _ _ (by decide)).trans e, h1, h2, h3.below hE h3.lt⟩ | (obtain ⟨cs', g1, g2⟩ := hE.box h3; exact ⟨q, cs', e, h1, g1.trans h2, g2⟩)) | (obtain ⟨q, A, c, e, h1, h2, h3⟩ := h; exact ⟨q, A, c, (put_getD_ne _ _ _ _ (by decide)).trans e, h1, h2.below hE h2.lt, (h3.below hE (Nat.le_refl _)).wide (Nat.le_refl _) hE.size⟩)
        · simp only at hE h ⊢; first | exact h | exact (put_getD_ne _ _ _ _ (by decide)).trans h | (obtain ⟨A, c, e, h⟩ := h; first | exact ⟨A, c, (put_getD_ne _ _ _ _ (by decide)).trans e, (h.below hE (Nat.le_refl _)).wide (Nat.le_refl _) hE.size⟩ | exact ⟨A, c, e, hE.row (by decide) h⟩) | (obtain ⟨q, cs, e, h1, h2, h3⟩ := h; first | exact ⟨q, cs, (put_getD_ne _ _ _ _ (by decide)).trans e, h1, h2, h3.below hE h3.lt⟩ | (obtain ⟨cs', g1, g2⟩ := hE.box h3; exact ⟨q, cs', e, h1, g1.trans h2, g2⟩)) | (obtain ⟨q, A, c, e, h1, h2, h3⟩ := h; exact ⟨q, A, c, (put_getD_ne _ _ _ _ (by decide)).trans e, h1, h2.below hE h2.lt, (h3.below hE (Nat.le_refl _)).wide (Nat.le_refl _) hE.size⟩)
        · exact absurd rfl hij
    · intro j o hj ho a' w' hC hsame hdep
      have hz : w2.heap.size ≤ w'.heap.size := hC.size
      simp only [List.mem_cons, List.not_mem_nil, or_false] at hj
      rcases hj with rfl | rfl | rfl | rfl | rfl | rfl | rfl | rfl | rfl | rfl
      all_goals obtain rfl := Option.some.inj ho
      · have hs : a'.tmps.getD 2 undef = .pointer (some ⟨w.heap.size, 0, none⟩) := hsame 2 (by rfl)
        have zz : ∀ o, w'.cell? ⟨w.heap.size, o, none⟩ = _ := fun o => (hC.cell (p := ⟨w.heap.size, o, none⟩) (by show w.heap.size < w2.heap.size; omega)).trans (ya2 o)
        refine wp_val (w2 := w') ((.agg #[.slice A l.length c, .int .i64 s])) (fun K hK => ?_) ⟨_, rfl, hC, Below.refl _ _, fun b hb _ => hb 27 rfl⟩
        clear hsame hdep
        unfold Oper.wp
        simp [execOp, Act.eval, hs, go_sem, zz]
        exact hK
      · have e1 : a'.tmps.getD 27 undef = (.agg #[.slice A l.length c, .int .i64 s]) := hdep ⟨0, .data⟩ (by simp) rfl
        have hr : RdL headC 6 w' w'.heap.size A l.length c l := (((HL.out.below B2.out (Nat.le_refl _)).more B2.out.size).below hC (Nat.le_refl _)).more hz
        refine wp_call (fun u w2 => ∃ A c, u = (.agg #[.slice A l.length c, .int .i64 s]) ∧ OwnL headC 6 34 w2 w'.heap.size w2.heap.size A l.length c l ∧ Below w'.heap.size w' w2) (fun K hK => ?_) ?_
        · clear hsame hdep
          unfold Oper.wp
          simp [execOp, Act.eval, e1, go_sem]
          refine (toStore_any s A l.length c l _ hr (by omega)).mono ?_
          rintro e w3 ⟨A7, n7, c7, rfl, ho3, hb3⟩
          obtain rfl : l.length = n7 := ho3.1
          exact hK _ _ ⟨A7, c7, rfl, ho3, hb3⟩
        · rintro u w3 ⟨A7, c7, rfl, ho3, hb3⟩
          exact ⟨_, rfl, hC.trans (hb3.mono hz), hb3, fun b hb _ => ⟨A7, c7, hb 28 rfl, ho3.wide hz (Nat.le_refl _)⟩⟩
      · have hs : a'.tmps.getD 3 undef = .pointer (some ⟨w.heap.size + 1, 0, none⟩) := hsame 3 (by rfl)
        have zz : ∀ o, w'.cell? ⟨w.heap.size + 1, o, none⟩ = _ := fun o => (hC.cell (p := ⟨w.heap.size + 1, o, none⟩) (by show w.heap.size + 1 < w2.heap.size; omega)).trans (yv02 o)
        refine wp_val (w2 := w') (.agg #[.int .i64 v.h, .int .i64 v.t, .string v.last, .string v.vals, .string v.next, .string v.data]) (fun K hK => ?_) ⟨_, rfl, hC, Below.refl _ _, fun b hb _ => hb 29 rfl⟩
        clear hsame hdep
        unfold Oper.wp
        simp [execOp, Act.eval, hs, go_sem, zz]
        exact hK
      · have e1 : a'.tmps.getD 29 undef = .agg #[.int .i64 v.h, .int .i64 v.t, .string v.last, .string v.vals, .string v.next, .string v.data] := hdep ⟨2, .data⟩ (by simp) rfl
        refine wp_call (fun u w2 => u = .agg #[.int .i64 v.h, .int .i64 v.t, .string v.last, .string v.vals, .string v.next, .string v.data] ∧ Below w'.heap.size w' w2) (fun K hK => ?_) ?_
        · clear hsame hdep
          unfold Oper.wp
          simp [execOp, Act.eval, e1, go_sem]
          refine (toHeader_any v.h v.t v.last v.vals v.next v.data _).mono ?_
          rintro e w3 ⟨rfl, hb3⟩
          exact hK _ _ ⟨rfl, hb3⟩
        · rintro u w3 ⟨rfl, hb3⟩
          exact ⟨_, rfl, hC.trans (hb3.mono hz), hb3, fun b hb _ => hb 30 rfl⟩
      · obtain ⟨A6, c6, e1, ho⟩ := hdep ⟨1, .data⟩ (by simp) rfl
        have hr := ho.rd headC_len
        have e2 : a'.tmps.getD 30 undef = .agg #[.int .i64 v.h, .int .i64 v.t, .string v.last, .string v.vals, .string v.next, .string v.data] := hdep ⟨3, .data⟩ (by simp) rfl
        refine wp_call (fun u w2 => ∃ A c, u = .tuple #[(.agg #[.slice A lr.length c, .int .i64 s']), .bool kv] ∧ OwnL headC 6 34 w2 w'.heap.size w2.heap.size A lr.length c lr ∧ Below w'.heap.size w' w2) (fun K hK => ?_) ?_
        · clear hsame hdep
          unfold Oper.wp
          simp [execOp, Act.eval, e1, e2, go_sem]
          refine (HSP.out _ A6 c6 hr).mono ?_
          rintro e w3 ⟨A7, c7, rfl, ho3, hb3⟩
          exact hK _ _ ⟨A7, c7, rfl, ho3, hb3⟩
        · rintro u w3 ⟨A7, c7, rfl, ho3, hb3⟩
          exact ⟨_, rfl, hC.trans (hb3.mono hz), hb3, fun b hb _ => ⟨A7, c7, hb 31 rfl, ho3.wide hz (Nat.le_refl _)⟩⟩
      · obtain ⟨A7, c7, e1, ho⟩ := hdep ⟨4, .data⟩ (by simp) rfl
        refine wp_val (w2 := w') (.tuple #[(.agg #[.slice A7 lr.length c7, .int .i64 s']), .bool kv]) (fun K hK => ?_) ⟨_, rfl, hC, Below.refl _ _, fun b hb _ => ⟨A7, c7, hb 26 rfl, ho⟩⟩
        clear hsame hdep
        unfold Oper.wp
        simp [execOp, Act.eval, e1, go_sem]
        exact hK
      · obtain ⟨A7, c7, e1, ho⟩ := hdep ⟨5, .data⟩ (by simp) rfl
        refine wp_val (w2 := w') ((.agg #[.slice A7 lr.length c7, .int .i64 s'])) (fun K hK => ?_) ⟨_, rfl, hC, Below.refl _ _, fun b hb _ => ⟨A7, c7, hb 32 rfl, ho⟩⟩
        clear hsame hdep
        unfold Oper.wp
        simp [execOp, Act.eval, e1, go_sem]
        exact hK
      · obtain ⟨A7, c7, e1, ho⟩ := hdep ⟨5, .data⟩ (by simp) rfl
        refine wp_val (w2 := w') (.bool kv) (fun K hK => ?_) ⟨_, rfl, hC, Below.refl _ _, fun b hb _ => hb 33 rfl⟩
        clear hsame hdep
        unfold Oper.wp
        simp [execOp, Act.eval, e1, go_sem]
        exact hK
      · refine wp_val (w2 := w'.alloc (.cells #[.slice none 0 0, .int .i64 0] 29)) (.pointer (some ⟨w'.heap.size, 0, none⟩)) (fun K hK => ?_) ⟨_, rfl, hC.alloc hz _, (Below.refl _ _).alloc (Nat.le_refl _) _, fun b hb _ => ⟨w'.heap.size, _, hb 6 rfl, hz, rfl, heap_alloc_new w' _⟩⟩
        clear hsame hdep
        unfold Oper.wp
        simp [execOp, Act.eval, go_sem]
        exact hK
      · obtain ⟨q0, cs0, e1, hq0, hsz, hblk⟩ := hdep ⟨8, .data⟩ (by simp) rfl
        obtain ⟨A7, c7, e2, ho⟩ := hdep ⟨6, .data⟩ (by simp) rfl
        obtain ⟨lc⟩ := cs0
        obtain ⟨k0, k1, rfl⟩ := list2 (l := lc) (by simpa using hsz)
        have f0 : w'.cell? ⟨q0, 0, none⟩ = some k0 := by rw [hblk.cell]; rfl
        have f1 : w'.cell? ⟨q0, 1, none⟩ = some k1 := by rw [hblk.cell]; rfl
        have ff := hblk.frozen
        obtain ⟨w9, hw9⟩ : ∃ z, z = ((w'.setCell ⟨q0, 0, none⟩ (.slice A7 lr.length c7)).setCell ⟨q0, 1, none⟩ (.int .i64 s')) := ⟨_, rfl⟩
        have hchg : Chg q0 (q0 + 1) w' w9 := by rw [hw9]; (repeat (first | with_reducible refine Chg.setCell ?_ (by first | exact Nat.le_refl _ | (simp; done) | (simp; omega)) (by first | (simp; done) | (simp; omega)) _ | with_reducible refine Chg.alloc ?_ _ | with_reducible refine Chg.drew ?_)); (with_reducible exact Chg.refl _ _ _)
        have hblk2 : Blk w9 q0 29 #[.slice A7 lr.length c7, .int .i64 s'] := by
          rw [hw9]
          have hb := ((hblk.set_ 0 (.slice A7 lr.length c7)).set_ 1 (.int .i64 s'))
          simp only [List.setIfInBounds_toArray, List.set_cons_zero, List.set_cons_succ] at hb
          exact hb
        have hturn := BoxTurn.of_blk hblk hblk2 rfl hchg
        have hown := hturn.row (by decide) ho
        have hcls := hC.trans (hchg.below hq0 hz)
        refine wp_val (w2 := w9) undef (fun K hK => ?_) ⟨_, rfl, hcls, hturn, fun b _ hb => ⟨q0, A7, c7, (hb 6 (by intro d h; cases h)).trans e1, hq0, hblk2, hown⟩⟩
        rw [hw9] at hK
        clear hsame hdep hchg hblk2 hturn hown hcls hw9
        unfold Oper.wp
        simp [execOp, Act.eval, e1, e2, go_sem, f0, f1, ff]
        exact hK
    · intro a' w' hC ha hP
      obtain ⟨q0, A7, c7, e1, hq0, hblk, ho⟩ := hP 9 (by simp)
      have e2 : a'.tmps.getD 33 undef = .bool kv := hP 7 (by simp)
      clear hP
      simp only [coreOps, List.filterMap_cons, List.filterMap_nil, List.getElem?_cons_zero, List.getElem?_cons_succ, fillA, slotOf, Act.put, e1, e2] at ha
      generalize a'.tmps.getD 27 undef = u27 at ha
      generalize a'.tmps.getD 28 undef = u28 at ha
      generalize a'.tmps.getD 29 undef = u29 at ha
      generalize a'.tmps.getD 30 undef = u30 at ha
      generalize a'.tmps.getD 31 undef = u31 at ha
      generalize a'.tmps.getD 26 undef = u26 at ha
      generalize a'.tmps.getD 32 undef = u32 at ha
      subst ha
      show wpAny _ _ _ _ 1 _ _ _
      refine wpAny_ready (rs := [10]) (by kernel_rfl) (by simp) ?_
      refine AllReady.cons rfl (fun K hK => ?_) AllReady.nil
      go_simp
      refine hK _ _ ?_
      clear hK K
      refine wpAny_done (by kernel_rfl) ?_ _
      go_wp2_with fail
      go_meet
      obtain ⟨ga, gb, ho, g1, g2, g3, g4⟩ := ho.apart hblk (by decide) hC.size
      exact ⟨q0, A7, c7, ga, gb, rfl, rfl, hq0, hblk, ho, g1, g2, g3, g4, hC⟩
  case rest =>
  obtain ⟨q2, Ap, cp, ga2, gb2, rfl, rfl, hq2, hblk, ho, hg12, hg22, hg32, hg42, hb⟩ := hcut
  have hs3 := hb.size
  have C3 := Lib.hid ((Chg.refl w.heap.size w.heap.size w2).below_trans hb)
  have ya3 : ∀ o, wc.cell? ⟨w.heap.size, o, none⟩ = _ := fun o => (C3.out.cell (by omega) (by omega)).trans (ya2 o)
  have yv03 : ∀ o, wc.cell? ⟨w.heap.size + 1, o, none⟩ = _ := fun o => (C3.out.cell (by omega) (by omega)).trans (yv02 o)
  clear ya2 yv02
  have pa3 : w.heap.size < wc.heap.size := by omega
  have pv03 : w.heap.size + 1 < wc.heap.size := by omega
  have B3 : Hid (Below w.heap.size w wc) := B2.out.trans (C3.out.below (by omega) (by omega))
  clear hb
  have Op3 := Lib.hid ho
  clear ho
  obtain ⟨w3, hwc⟩ : ∃ q, q = wc := ⟨_, rfl⟩
  subst hwc
  have yw3 : ∀ o, w3.cell? ⟨q2, o, none⟩ = _ := fun o => hblk.cell o
  have pw3 : q2 < w3.heap.size := hblk.lt
  clear hblk
  go_wp2_with fail
  refine (toStore_any s A l.length c l _ (?_) (by omega)).mono ?_
  · refine RdL.more (B := w3.heap.size) ?_ (by first | exact Nat.le_refl _ | (simp; done) | omega | (simp; omega))
    exact (HL.out.below B3.out (Nat.le_refl _)).more B3.out.size
  rintro e w4 ⟨Ax, nx, cx, rfl, ho, hb⟩
  have hs4 := hb.size
  have C4 := Lib.hid ((Chg.refl w.heap.size w.heap.size w3).below_trans hb)
  have ya4 : ∀ o, w4.cell? ⟨w.heap.size, o, none⟩ = _ := fun o => (C4.out.cell (by omega) (by omega)).trans (ya3 o)
  have yv04 : ∀ o, w4.cell? ⟨w.heap.size + 1, o, none⟩ = _ := fun o => (C4.out.cell (by omega) (by omega)).trans (yv03 o)
  have yw4 : ∀ o, w4.cell? ⟨q2, o, none⟩ = _ := fun o => (C4.out.cell (by omega) (by omega)).trans (yw3 o)
  clear ya3 yv03 yw3
  have pa4 : w.heap.size < w4.heap.size := by omega
  have pv04 : w.heap.size + 1 < w4.heap.size := by omega
  have pw4 : q2 < w4.heap.size := by omega
  have B4 : Hid (Below w.heap.size w w4) := B3.out.trans (C4.out.below (by omega) (by omega))
  have Op4 := Lib.hid (Op3.out.chg C4.out (by omega))
  clear Op3
  clear hb
  obtain rfl : l.length = nx := ho.1
  have Ox4 := Lib.hid (ho.wide (lo' := w3.heap.size) (by first | exact Nat.le_refl _ | (simp; done) | (simp; omega)) (Nat.le_refl _))
  clear ho
  go_wp2_with fail
  go_upto_region 10 with fail
  obtain ⟨w5, hwz⟩ : ∃ q, q = (w4.alloc (.cells #[.slice Ax l.length cx, .int .i64 s] 29)) := ⟨_, rfl⟩
  rw [← hwz]
  have hb : Below (w4.alloc (.cells #[.slice Ax l.length cx, .int .i64 s] 29)).heap.size (w4.alloc (.cells #[.slice Ax l.length cx, .int .i64 s] 29)) w5 := by rw [hwz]; exact Below.refl _ _
  clear hwz
  have hs5 := hb.size
  (try simp only [World.size_alloc] at hs5)
  have C5 := Lib.hid (((Chg.refl w.heap.size w.heap.size w4).alloc _).below_trans hb)
  have ya5 : ∀ o, w5.cell? ⟨w.heap.size, o, none⟩ = _ := fun o => (C5.out.cell (by omega) (by omega)).trans (ya4 o)
  have yv05 : ∀ o, w5.cell? ⟨w.heap.size + 1, o, none⟩ = _ := fun o => (C5.out.cell (by omega) (by omega)).trans (yv04 o)
  have yw5 : ∀ o, w5.cell? ⟨q2, o, none⟩ = _ := fun o => (C5.out.cell (by omega) (by omega)).trans (yw4 o)
  have yx5 : ∀ o, w5.cell? ⟨w4.heap.size, o, none⟩ = _ := fun o => hb.cell (p := ⟨w4.heap.size, o, none⟩) (by first | exact Nat.le_refl _ | (simp; done) | omega | (simp; omega))
  clear ya4 yv04 yw4
  have pa5 : w.heap.size < w5.heap.size := by omega
  have pv05 : w.heap.size + 1 < w5.heap.size := by omega
  have pw5 : q2 < w5.heap.size := by omega
  have px5 : w4.heap.size < w5.heap.size := by omega
  have B5 : Hid (Below w.heap.size w w5) := B4.out.trans (C5.out.below (by omega) (by omega))
  have Op5 := Lib.hid (Op4.out.chg C5.out (by omega))
  have Ox5 := Lib.hid (Ox4.out.chg C5.out (by omega))
  clear Op4 Ox4
  clear hb
  go_cut [9, 10] (fun sp sk wx => ∃ q A c ga gb, sp = .pointer (some ⟨q, 0, none⟩) ∧ sk = (.bool kv) ∧ w5.heap.size ≤ q ∧ Blk wx q 29 #[.slice A lr.length c, .int .i64 s'] ∧ OwnL headC 6 34 wx ga gb A lr.length c lr ∧ w5.heap.size ≤ ga ∧ ga ≤ gb ∧ gb ≤ wx.heap.size ∧ (q < ga ∨ gb ≤ q) ∧ Below w5.heap.size w5 wx)
  case first =>
    refine wp_region_core [0, 1, 2, 3, 4, 5, 6, 7, 8] (Below w5.heap.size w5) (fun j wa wb => match j with | 8 => BoxTurn 29 wa wb | _ => Below wa.heap.size wa wb) (fun i b w => match i with
      | 0 => b.tmps.getD 37 undef = (.agg #[.slice Ax l.length cx, .int .i64 s])
      | 1 => b.tmps.getD 38 undef = .agg #[.int .i64 v.h, .int .i64 v.t, .string v.last, .string v.vals, .string v.next, .string v.data]
      | 2 => b.tmps.getD 39 undef = .agg #[.int .i64 v.h, .int .i64 v.t, .string v.last, .string v.vals, .string v.next, .string v.data]
      | 3 => ∃ A c, b.tmps.getD 40 undef = .tuple #[(.agg #[.slice A lr.length c, .int .i64 s']), .bool kv] ∧ OwnL headC 6 34 w w5.heap.size w.heap.size A lr.length c lr
      | 4 => ∃ A c, b.tmps.getD 36 undef = .tuple #[(.agg #[.slice A lr.length c, .int .i64 s']), .bool kv] ∧ OwnL headC 6 34 w w5.heap.size w.heap.size A lr.length c lr
      | 5 => ∃ A c, b.tmps.getD 41 undef = (.agg #[.slice A lr.length c, .int .i64 s']) ∧ OwnL headC 6 34 w w5.heap.size w.heap.size A lr.length c lr
      | 6 => b.tmps.getD 42 undef = .bool kv
      | 7 => ∃ q cs, b.tmps.getD 9 undef = .pointer (some ⟨q, 0, none⟩) ∧ w5.heap.size ≤ q ∧ cs.size = 2 ∧ Blk w q 29 cs
      | 8 => ∃ q A c, b.tmps.getD 9 undef = .pointer (some ⟨q, 0, none⟩) ∧ w5.heap.size ≤ q ∧ Blk w q 29 #[.slice A lr.length c, .int .i64 s'] ∧ OwnL headC 6 34 w w5.heap.size w.heap.size A lr.length c lr
      | _ => True) (by kernel_rfl) (by kernel_rfl) ((Below.refl _ _).drew) ?_ ?_ ?_
    · intro b wa wb i j oj v hi hj hij hoj hdep hE h
      simp only [List.mem_cons, List.not_mem_nil, or_false] at hi hj
      rcases hj with rfl | rfl | rfl | rfl | rfl | rfl | rfl | rfl | rfl
      all_goals obtain rfl := Option.some.inj hoj
      · rcases hi with rfl | rfl | rfl | rfl | rfl | rfl | rfl | rfl | rfl
        · exact absurd rfl hij
        · simp only at hE h ⊢; first | exact h | exact (put_getD_ne _ _ _ _ (by decide)).trans h | (obtain ⟨A, c, e, h⟩ := h; first | exact ⟨A, c, (put_getD_ne _ _ _ _ (by decide)).trans e, (h.below hE (Nat.le_refl _)).wide (Nat.le_refl _) hE.size⟩ | exact ⟨A, c, e, hE.row (by decide) h⟩) | (obtain ⟨q, cs, e, h1, h2, h3⟩ := h; first | exact ⟨q, cs, (put_getD_ne _ _ _ _ (by decide)).trans e, h1, h2, h3.below hE h3.lt⟩ | (obtain ⟨cs', g1, g2⟩ := hE.box h3; exact ⟨q, cs', e, h1, g1.trans h2, g2⟩)) | (obtain ⟨q, A, c, e, h1, h2, h3⟩ := h; exact ⟨q, A, c, (put_getD_ne _ _ _ _ (by decide)).trans e, h1, h2.below hE h2.lt, (h3.below hE (Nat.le_refl _)).wide (Nat.le_refl _) hE.size⟩)
        · simp only at hE h ⊢; first | exact h | exact (put_getD_ne _ _ _ _ (by decide)).trans h | (obtain ⟨A, c, e, h⟩ := h; first | exact ⟨A, c, (put_getD_ne _ _ _ _ (by decide)).trans e, (h.below hE (Nat.le_refl _)).wide (Nat.le_refl _) hE.size⟩ | exact ⟨A, c, e, hE.row (by decide) h⟩) | (obtain ⟨q, cs, e, h1, h2, h3⟩ := h; first | exact ⟨q, cs, (put_getD_ne _ _ _ _ (by decide)).trans e, h1, h2, h3.below hE h3.lt⟩ | (obtain ⟨cs', g1, g2⟩ := hE.box h3; exact ⟨q, cs', e, h1, g1.trans h2, g2⟩)) | (obtain ⟨q, A, c, e, h1, h2, h3⟩ := h; exact ⟨q, A, c, (put_getD_ne _ _ _ _ (by decide)).trans e, h1, h2.below hE h2.lt, (h3.below hE (Nat.le_refl _)).wide (Nat.le_refl _) hE.size⟩)
        · simp only at hE h ⊢; first | exact h | exact (put_getD_ne _ _ _ _ (by decide)).trans h | (obtain ⟨A, c, e, h⟩ := h; first | exact ⟨A, c, (put_getD_ne _ _ _ _ (by decide)).trans e, (h.below hE (Nat.le_refl _)).wide (Nat.le_refl _) hE.size⟩ | exact ⟨A, c, e, hE.row (by decide) h⟩) | (obtain ⟨q, cs, e, h1, h2, h3⟩ := h; first | exact ⟨q, cs, (put_getD_ne _ _ _ _ (by decide)).trans e, h1, h2, h3.below hE h3.lt⟩ | (obtain ⟨cs', g1, g2⟩ := hE.box h3; exact ⟨q, cs', e, h1, g1.trans h2, g2⟩)) | (obtain ⟨q, A, c, e, h1, h2, h3⟩ := h; exact ⟨q, A, c, (put_getD_ne _ _ _ _ (by decide)).trans e, h1, h2.below hE h2.lt, (h3.below hE (Nat.le_refl _)).wide (Nat.le_refl _) hE.size⟩)
        · simp only at hE h ⊢; first | exact h | exact (put_getD_ne _ _ _ _ (by decide)).trans h | (obtain ⟨A, c, e, h⟩ := h; first | exact ⟨A, c, (put_getD_ne _ _ _ _ (by decide)).trans e, (h.below hE (Nat.le_refl _)).wide (Nat.le_refl _) hE.size⟩ | exact ⟨A, c, e, hE.row (by decide) h⟩) | (obtain ⟨q, cs, e, h1, h2, h3⟩ := h; first | exact ⟨q, cs, (put_getD_ne _ _ _ _ (by decide)).trans e, h1, h2, h3.below hE h3.lt⟩ | (obtain ⟨cs', g1, g2⟩ := hE.box h3; exact ⟨q, cs', e, h1, g1.trans h2, g2⟩)) | (obtain ⟨q, A, c, e, h1, h2, h3⟩ := h; exact ⟨q, A, c, (put_getD_ne _ _ _ _ (by decide)).trans e, h1, h2.below hE h2.lt, (h3.below hE (Nat.le_refl _)).wide (Nat.le_refl _) hE.size⟩)
        · simp only at hE h ⊢; first | exact h | exact (put_getD_ne _ _ _ _ (by decide)).trans h | (obtain ⟨A, c, e, h⟩ := h; first | exact ⟨A, c, (put_getD_ne _ _ _ _ (by decide)).trans e, (h.below hE (Nat.le_refl _)).wide (Nat.le_refl _) hE.size⟩ | exact ⟨A, c, e, hE.row (by decide) h⟩) | (obtain ⟨q, cs, e, h1, h2, h3⟩ := h; first | exact ⟨q, cs, (put_getD_ne _ _ _ _ (by decide)).trans e, h1, h2, h3.below hE h3.lt⟩ | (obtain ⟨cs', g1, g2⟩ := hE.box h3; exact ⟨q, cs', e, h1, g1.trans h2, g2⟩)) | (obtain ⟨q, A, c, e, h1, h2, h3⟩ := h; exact ⟨q, A, c, (put_getD_ne _ _ _ _ (by decide)).trans e, h1, h2.below hE h2.lt, (h3.below hE (Nat.le_refl _)).wide (Nat.le_refl _) hE.size⟩)
        · simp only at hE h ⊢; first | exact h | exact (put_getD_ne _ _ _ _ (by decide)).trans h | (obtain ⟨A, c, e, h⟩ := h; first | exact ⟨A, c, (put_getD_ne _ _ _ _ (by decide)).trans e, (h.below hE (Nat.le_refl _)).wide (Nat.le_refl _) hE.size⟩ | exact ⟨A, c, e, hE.row (by decide) h⟩) | (obtain ⟨q, cs, e, h1, h2, h3⟩ := h; first | exact ⟨q, cs, (put_getD_ne _ _ _ _ (by decide)).trans e, h1, h2, h3.below hE h3.lt⟩ | (obtain ⟨cs', g1, g2⟩ := hE.box h3; exact ⟨q, cs', e, h1, g1.trans h2, g2⟩)) | (obtain ⟨q, A, c, e, h1, h2, h3⟩ := h; exact ⟨q, A, c, (put_getD_ne _ _ _ _ (by decide)).trans e, h1, h2.below hE h2.lt, (h3.below hE (Nat.le_refl _)).wide (Nat.le_refl _) hE.size⟩)
        · simp only at hE h ⊢; first | exact h | exact (put_getD_ne _ _ _ _ (by decide)).trans h | (obtain ⟨A, c, e, h⟩ := h; first | exact ⟨A, c, (put_getD_ne _ _ _ _ (by decide)).trans e, (h.below hE (Nat.le_refl _)).wide (Nat.le_refl _) hE.size⟩ | exact ⟨A, c, e, hE.row (by decide) h⟩) | (obtain ⟨q, cs, e, h1, h2, h3⟩ := h; first | exact ⟨q, cs, (put_getD_ne _ _ _ _ (by decide)).trans e, h1, h2, h3.below hE h3.lt⟩ | (obtain ⟨cs', g1, g2⟩ := hE.box h3; exact ⟨q, cs', e, h1, g1.trans h2, g2⟩)) | (obtain ⟨q, A, c, e, h1, h2, h3⟩ := h; exact ⟨q, A, c, (put_getD_ne _ _ _ _ (by decide)).trans e, h1, h2.below hE h2.lt, (h3.below hE (Nat.le_refl _)).wide (Nat.le_refl _) hE.size⟩)
        · simp only at hE h ⊢; first | exact h | exact (put_getD_ne _ _ _ _ (by decide)).trans h | (obtain ⟨A, c, e, h⟩ := h; first | exact ⟨A, c, (put_getD_ne _ _ _ _ (by decide)).trans e, (h.below hE (Nat.le_refl _)).wide (Nat.le_refl _) hE.size⟩ | exact ⟨A, c, e, hE.row (by decide) h⟩) | (obtain ⟨q, cs, e, h1, h2, h3⟩ := h; first | exact ⟨q, cs, (put_getD_ne _ _ _ _ (by decide)).trans e, h1, h2, h3.below hE h3.lt⟩ | (obtain ⟨cs', g1, g2⟩ := hE.box h3; exact ⟨q, cs', e, h1, g1.trans h2, g2⟩)) | (obtain ⟨q, A, c, e, h1, h2, h3⟩ := h; exact ⟨q, A, c, (put_getD_ne _ _ _ _ (by decide)).trans e, h1, h2.below hE h2.lt, (h3.below hE (Nat.le_refl _)).wide (Nat.le_refl _) hE.size⟩)
      · rcases hi with rfl | rfl | rfl | rfl | rfl | rfl | rfl | rfl | rfl
        · simp only at hE h ⊢; first | exact h | exact (put_getD_ne _ _ _ _ (by decide)).trans h | (obtain ⟨A, c, e, h⟩ := h; first | exact ⟨A, c, (put_getD_ne _ _ _ _ (by decide)).trans e, (h.below hE (Nat.le_refl _)).wide (Nat.le_refl _) hE.size⟩ | exact ⟨A, c, e, hE.row (by decide) h⟩) | (obtain ⟨q, cs, e, h1, h2, h3⟩ := h; first | exact ⟨q, cs, (put_getD_ne _ _ _ _ (by decide)).trans e, h1, h2, h3.below hE h3.lt⟩ | (obtain ⟨cs', g1, g2⟩ := hE.box h3; exact ⟨q, cs', e, h1, g1.trans h2, g2⟩)) | (obtain ⟨q, A, c, e, h1, h2, h3⟩ := h; exact ⟨q, A, c, (put_getD_ne _ _ _ _ (by decide)).trans e, h1, h2.below hE h2.lt, (h3.below hE (Nat.le_refl _)).wide (Nat.le_refl _) hE.size⟩)
        · exact absurd rfl hij
        · simp only at hE h ⊢; first | exact h | exact (put_getD_ne _ _ _ _ (by decide)).trans h | (obtain ⟨A, c, e, h⟩ := h; first | exact ⟨A, c, (put_getD_ne _ _ _ _ (by decide)).trans e, (h.below hE (Nat.le_refl _)).wide (Nat.le_refl _) hE.size⟩ | exact ⟨A, c, e, hE.row (by decide) h⟩) | (obtain ⟨q, cs, e, h1, h2, h3⟩ := h; first | exact ⟨q, cs, (put_getD_ne _ _ _ _ (by decide)).trans e, h1, h2, h3.below hE h3.lt⟩ | (obtain ⟨cs', g1, g2⟩ := hE.box h3; exact ⟨q, cs', e, h1, g1.trans h2, g2⟩)) | (obtain ⟨q, A, c, e, h1, h2, h3⟩ := h; exact ⟨q, A, c, (put_getD_ne _ _ _ _ (by decide)).trans e, h1, h2.below hE h2.lt, (h3.below hE (Nat.le_refl _)).wide (Nat.le_refl _) hE.size⟩)
        · simp only at hE h ⊢; first | exact h | exact (put_getD_ne _ _ _ _ (by decide)).trans h | (obtain ⟨A, c, e, h⟩ := h; first | exact ⟨A, c, (put_getD_ne _ _ _ _ (by decide)).trans e, (h.below hE (Nat.le_refl _)).wide (Nat.le_refl _) hE.size⟩ | exact ⟨A, c, e, hE.row (by decide) h⟩) | (obtain ⟨q, cs, e, h1, h2, h3⟩ := h; first | exact ⟨q, cs, (put_getD_ne _ _ _ _ (by decide)).trans e, h1, h2, h3.below hE h3.lt⟩ | (obtain ⟨cs', g1, g2⟩ := hE.box h3; exact ⟨q, cs', e, h1, g1.trans h2, g2⟩)) | (obtain ⟨q, A, c, e, h1, h2, h3⟩ := h; exact ⟨q, A, c, (put_getD_ne _ _ _ _ (by decide)).trans e, h1, h2.below hE h2.lt, (h3.below hE (Nat.le_refl _)).wide (Nat.le_refl _) hE.size⟩)
        · simp only at hE h ⊢; first | exact h | exact (put_getD_ne _ _ _ _ (by decide)).trans h | (obtain ⟨A, c, e, h⟩ := h; first | exact ⟨A, c, (put_getD_ne _ _ _ _ (by decide)).trans e, (h.below hE (Nat.le_refl _)).wide (Nat.le_refl _) hE.size⟩ | exact ⟨A, c, e, hE.row (by decide) h⟩) | (obtain ⟨q, cs, e, h1, h2, h3⟩ := h; first | exact ⟨q, cs, (put_getD_ne _ _ _ _ (by decide)).trans e, h1, h2, h3.below hE h3.lt⟩ | (obtain ⟨cs', g1, g2⟩ := hE.box h3; exact ⟨q, cs', e, h1, g1.trans h2, g2⟩)) | (obtain ⟨q, A, c, e, h1, h2, h3⟩ := h; exact ⟨q, A, c, (put_getD_ne _ _ _ _ (by decide)).trans e, h1, h2.below hE h2.lt, (h3.below hE (Nat.le_refl _)).wide (Nat.le_refl _) hE.size⟩)
        · simp only at hE h ⊢; first | exact h | exact (put_getD_ne _ _ _ _ (by decide)).trans h | (obtain ⟨A, c, e, h⟩ := h; first | exact ⟨A, c, (put_getD_ne _ _ _ _ (by decide)).trans e, (h.below hE (Nat.le_refl _)).wide (Nat.le_refl _) hE.size⟩ | exact ⟨A, c, e, hE.row (by decide) h⟩) | (obtain ⟨q, cs, e, h1, h2, h3⟩ := h; first | exact ⟨q, cs, (put_getD_ne _ _ _ _ (by decide)).trans e, h1, h2, h3.below hE h3.lt⟩ | (obtain ⟨cs', g1, g2⟩ := hE.box h3; exact ⟨q, cs', e, h1, g1.trans h2, g2⟩)) | (obtain ⟨q, A, c, e, h1, h2, h3⟩ := h; exact ⟨q, A, c, (put_getD_ne _ _ _ _ (by decide)).trans e, h1, h2.below hE h2.lt, (h3.below hE (Nat.le_refl _)).wide (Nat.le_refl _) hE.size⟩)
        · simp only at hE h ⊢; first | exact h | exact (put_getD_ne _ _ _ _ (by decide)).trans h | (obtain ⟨A, c, e, h⟩ := h; first | exact ⟨A, c, (put_getD_ne _ _ _ _ (by decide)).trans e, (h.below hE (Nat.le_refl _)).wide (Nat.le_refl _) hE.size⟩ | exact ⟨A, c, e, hE.row (by decide) h⟩) | (obtain ⟨q, cs, e, h1, h2, h3⟩ := h; first | exact ⟨q, cs, (put_getD_ne _ _ _ _ (by decide)).trans e, h1, h2, h3.below hE h3.lt⟩ | (obtain ⟨cs', g1, g2⟩ := hE.box h3; exact ⟨q, cs', e, h1, g1.trans h2, g2⟩)) | (obtain ⟨q, A, c, e, h1, h2, h3⟩ := h; exact ⟨q, A, c, (put_getD_ne _ _ _ _ (by decide)).trans e, h1, h2.below hE h2.lt, (h3.below hE (Nat.le_refl _)).wide (Nat.le_refl _) hE.size⟩)
        · simp only at hE h ⊢; first | exact h | exact (put_getD_ne _ _ _ _ (by decide)).trans h | (obtain ⟨A, c, e, h⟩ := h; first | exact ⟨A, c, (put_getD_ne _ _ _ _ (by decide)).trans e, (h.below hE (Nat.le_refl _)).wide (Nat.le_refl _) hE.size⟩ | exact ⟨A, c, e, hE.row (by decide) h⟩) | (obtain ⟨q, cs, e, h1, h2, h3⟩ := h; first | exact ⟨q, cs, (put_getD_ne _ _ _ _ (by decide)).trans e, h1, h2, h3.below hE h3.lt⟩ | (obtain ⟨cs', g1, g2⟩ := hE.box h3; exact ⟨q, cs', e, h1, g1.trans h2, g2⟩)) | (obtain ⟨q, A, c, e, h1, h2, h3⟩ := h; exact ⟨q, A, c, (put_getD_ne _ _ _ _ (by decide)).trans e, h1, h2.below hE h2.lt, (h3.below hE (Nat.le_refl _)).wide (Nat.le_refl _) hE.size⟩)
        · simp only at hE h ⊢; first | exact h | exact (put_getD_ne _ _ _ _ (by decide)).trans h | (obtain ⟨A, c, e, h⟩ := h; first | exact ⟨A, c, (put_getD_ne _ _ _ _ (by decide)).trans e, (h.below hE (Nat.le_refl _)).wide (Nat.le_refl _) hE.size⟩ | exact ⟨A, c, e, hE.row (by decide) h⟩) | (obtain ⟨q, cs, e, h1, h2, h3⟩ := h; first | exact ⟨q, cs, (put_getD_ne _ _ _ _ (by decide)).trans e, h1, h2, h3.below hE h3.lt⟩ | (obtain ⟨cs', g1, g2⟩ := hE.box h3; exact ⟨q, cs', e, h1, g1.trans h2, g2⟩)) | (obtain ⟨q, A, c, e, h1, h2, h3⟩ := h; exact ⟨q, A, c, (put_getD_ne _ _ _ _ (by decide)).trans e, h1, h2.below hE h2.lt, (h3.below hE (Nat.le_refl _)).wide (Nat.le_refl _) hE.size⟩)
      · rcases hi with rfl | rfl | rfl | rfl | rfl | rfl | rfl | rfl | rfl
        · simp only at hE h ⊢; first | exact h | exact (put_getD_ne _ _ _ _ (by decide)).trans h | (obtain ⟨A, c, e, h⟩ := h; first | exact ⟨A, c, (put_getD_ne _ _ _ _ (by decide)).trans e, (h.below hE (Nat.le_refl _)).wide (Nat.le_refl _) hE.size⟩ | exact ⟨A, c, e, hE.row (by decide) h⟩) | (obtain ⟨q, cs, e, h1, h2, h3⟩ := h; first | exact ⟨q, cs, (put_getD_ne _ _ _ _ (by decide)).trans e, h1, h2, h3.below hE h3.lt⟩ | (obtain ⟨cs', g1, g2⟩ := hE.box h3; exact ⟨q, cs', e, h1, g1.trans h2, g2⟩)) | (obtain ⟨q, A, c, e, h1, h2, h3⟩ := h; exact ⟨q, A, c, (put_getD_ne _ _ _ _ (by decide)).trans e, h1, h2.below hE h2.lt, (h3.below hE (Nat.le_refl _)).wide (Nat.le_refl _) hE.size⟩)
        · simp only at hE h ⊢; first | exact h | exact (put_getD_ne _ _ _ _ (by decide)).trans h | (obtain ⟨A, c, e, h⟩ := h; first | exact ⟨A, c, (put_getD_ne _ _ _ _ (by decide)).trans e, (h.below hE (Nat.le_refl _)).wide (Nat.le_refl _) hE.size⟩ | exact ⟨A, c, e, hE.row (by decide) h⟩) | (obtain ⟨q, cs, e, h1, h2, h3⟩ := h; first | exact ⟨q, cs, (put_getD_ne _ _ _ _ (by decide)).trans e, h1, h2, h3.below hE h3.lt⟩ | (obtain ⟨cs', g1, g2⟩ := hE.box h3; exact ⟨q, cs', e, h1, g1.trans h2, g2⟩)) | (obtain ⟨q, A, c, e, h1, h2, h3⟩ := h; exact ⟨q, A, c, (put_getD_ne _ _ _ _ (by decide)).trans e, h1, h2.below hE h2.lt, (h3.below hE (Nat.le_refl _)).wide (Nat.le_refl _) hE.size⟩)
        · exact absurd rfl hij
        · simp only at hE h ⊢; first | exact h | exact (put_getD_ne _ _ _ _ (by decide)).trans h | (obtain ⟨A, c, e, h⟩ := h; first | exact ⟨A, c, (put_getD_ne _ _ _ _ (by decide)).trans e, (h.below hE (Nat.le_refl _)).wide (Nat.le_refl _) hE.size⟩ | exact ⟨A, c, e, hE.row (by decide) h⟩) | (obtain ⟨q, cs, e, h1, h2, h3⟩ := h; first | exact ⟨q, cs, (put_getD_ne _ _ _ _ (by decide)).trans e, h1, h2, h3.below hE h3.lt⟩ | (obtain ⟨cs', g1, g2⟩ := hE.box h3; exact ⟨q, cs', e, h1, g1.trans h2, g2⟩)) | (obtain ⟨q, A, c, e, h1, h2, h3⟩ := h; exact ⟨q, A, c, (put_getD_ne _ _ _ _ (by decide)).trans e, h1, h2.below hE h2.lt, (h3.below hE (Nat.le_refl _)).wide (Nat.le_refl _) hE.size⟩)
        · simp only at hE h ⊢; first | exact h | exact (put_getD_ne _ _ _ _ (by decide)).trans h | (obtain ⟨A, c, e, h⟩ := h; first | exact ⟨A, c, (put_getD_ne _ _ _ _ (by decide)).trans e, (h.below hE (Nat.le_refl _)).wide (Nat.le_refl _) hE.size⟩ | exact ⟨A, c, e, hE.row (by decide) h⟩) | (obtain ⟨q, cs, e, h1, h2, h3⟩ := h; first | exact ⟨q, cs, (put_getD_ne _ _ _ _ (by decide)).trans e, h1, h2, h3.below hE h3.lt⟩ | (obtain ⟨cs', g1, g2⟩ := hE.box h3; exact ⟨q, cs', e, h1, g1.trans h2, g2⟩)) | (obtain ⟨q, A, c, e, h1, h2, h3⟩ := h; exact ⟨q, A, c, (put_getD_ne _ _ _ _ (by decide)).trans e, h1, h2.below hE h2.lt, (h3.below hE (Nat.le_refl _)).wide (Nat.le_refl _) hE.size⟩)
        · simp only at hE h ⊢; first | exact h | exact (put_getD_ne _ _ _ _ (by decide)).trans h | (obtain ⟨A, c, e, h⟩ := h; first | exact ⟨A, c, (put_getD_ne _ _ _ _ (by decide)).trans e, (h.below hE (Nat.le_refl _)).wide (Nat.le_refl _) hE.size⟩ | exact ⟨A, c, e, hE.row (by decide) h⟩) | (obtain ⟨q, cs, e, h1, h2, h3⟩ := h; first | exact ⟨q, cs, (put_getD_ne _ _ _ _ (by decide)).trans e, h1, h2, h3.below hE h3.lt⟩ | (obtain ⟨cs', g1, g2⟩ := hE.box h3; exact ⟨q, cs', e, h1, g1.trans h2, g2⟩)) | (obtain ⟨q, A, c, e, h1, h2, h3⟩ := h; exact ⟨q, A, c, (put_getD_ne _ _ _ _ (by decide)).trans e, h1, h2.below hE h2.lt, (h3.below hE (Nat.le_refl _)).wide (Nat.le_refl _) hE.size⟩)
        · simp only at hE h ⊢; first | exact h | exact (put_getD_ne _ _ _ _ (by decide)).trans h | (obtain ⟨A, c, e, h⟩ := h; first | exact ⟨A, c, (put_getD_ne _ _ _ _ (by decide)).trans e, (h.below hE (Nat.le_refl _)).wide (Nat.le_refl _) hE.size⟩ | exact ⟨A, c, e, hE.row (by decide) h⟩) | (obtain ⟨q, cs, e, h1, h2, h3⟩ := h; first | exact ⟨q, cs, (put_getD_ne _ _ _ _ (by decide)).trans e, h1, h2, h3.below hE h3.lt⟩ | (obtain ⟨cs', g1, g2⟩ := hE.box h3; exact ⟨q, cs', e, h1, g1.trans h2, g2⟩)) | (obtain ⟨q, A, c, e, h1, h2, h3⟩ := h; exact ⟨q, A, c, (put_getD_ne _ _ _ _ (by decide)).trans e, h1, h2.below hE h2.lt, (h3.below hE (Nat.le_refl _)).wide (Nat.le_refl _) hE.size⟩)
        · simp only at hE h ⊢; first | exact h | exact (put_getD_ne _ _ _ _ (by decide)).trans h | (obtain ⟨A, c, e, h⟩ := h; first | exact ⟨A, c, (put_getD_ne _ _ _ _ (by decide)).trans e, (h.below hE (Nat.le_refl _)).wide (Nat.le_refl _) hE.size⟩ | exact ⟨A, c, e, hE.row (by decide) h⟩) | (obtain ⟨q, cs, e, h1, h2, h3⟩ := h; first | exact ⟨q, cs, (put_getD_ne _ _ _ _ (by decide)).trans e, h1, h2, h3.below hE h3.lt⟩ | (obtain ⟨cs', g1, g2⟩ := hE.box h3; exact ⟨q, cs', e, h1, g1.trans h2, g2⟩)) | (obtain ⟨q, A, c, e, h1, h2, h3⟩ := h; exact ⟨q, A, c, (put_getD_ne _ _ _ _ (by decide)).trans e, h1, h2.below hE h2.lt, (h3.below hE (Nat.le_refl _)).wide (Nat.le_refl _) hE.size⟩)
        · simp only at hE h ⊢; first | exact h | exact (put_getD_ne _ _ _ _ (by decide)).trans h | (obtain ⟨A, c, e, h⟩ := h; first | exact ⟨A, c, (put_getD_ne _ _ _ _ (by decide)).trans e, (h.below hE (Nat.le_refl _)).wide (Nat.le_refl _) hE.size⟩ | exact ⟨A, c, e, hE.row (by decide) h⟩) | (obtain ⟨q, cs, e, h1, h2, h3⟩ := h; first | exact ⟨q, cs, (put_getD_ne _ _ _ _ (by decide)).trans e, h1, h2, h3.below hE h3.lt⟩ | (obtain ⟨cs', g1, g2⟩ := hE.box h3; exact ⟨q, cs', e, h1, g1.trans h2, g2⟩)) | (obtain ⟨q, A, c, e, h1, h2, h3⟩ := h; exact ⟨q, A, c, (put_getD_ne _ _ _ _ (by decide)).trans e, h1, h2.below hE h2.lt, (h3.below hE (Nat.le_refl _)).wide (Nat.le_refl _) hE.size⟩)
      · rcases hi with rfl | rfl | rfl | rfl | rfl | rfl | rfl | rfl | rfl
        · simp only at hE h ⊢; first | exact h | exact (put_getD_ne _ _ _ _ (by decide)).trans h | (obtain ⟨A, c, e, h⟩ := h; first | exact ⟨A, c, (put_getD_ne _ _ _ _ (by decide)).trans e, (h.below hE (Nat.le_refl _)).wide (Nat.le_refl _) hE.size⟩ | exact ⟨A, c, e, hE.row (by decide) h⟩) | (obtain ⟨q, cs, e, h1, h2, h3⟩ := h; first | exact ⟨q, cs, (put_getD_ne _ _ _ _ (by decide)).trans e, h1, h2, h3.below hE h3.lt⟩ | (obtain ⟨cs', g1, g2⟩ := hE.box h3; exact ⟨q, cs', e, h1, g1.trans h2, g2⟩)) | (obtain ⟨q, A, c, e, h1, h2, h3⟩ := h; exact ⟨q, A, c, (put_getD_ne _ _ _ _ (by decide)).trans e, h1, h2.below hE h2.lt, (h3.below hE (Nat.le_refl _)).wide (Nat.le_refl _) hE.size⟩)
        · simp only at hE h ⊢; first | exact h | exact (put_getD_ne _ _ _ _ (by decide)).trans h | (obtain ⟨A, c, e, h⟩ := h; first | exact ⟨A, c, (put_getD_ne _ _ _ _ (by decide)).trans e, (h.below hE (Nat.le_refl _)).wide (Nat.le_refl _) hE.size⟩ | exact ⟨A, c, e, hE.row (by decide) h⟩) | (obtain ⟨q, cs, e, h1, h2, h3⟩ := h; first | exact ⟨q, cs, (put_getD_ne _ _ _ _ (by decide)).trans e, h1, h2, h3.below hE h3.lt⟩ | (obtain ⟨cs', g1, g2⟩ := hE.box h3; exact ⟨q, cs', e, h1, g1.trans h2, g2⟩)) | (obtain ⟨q, A, c, e, h1, h2, h3⟩ := h; exact ⟨q, A, c, (put_getD_ne _ _ _ _ (by decide)).trans e, h1, h2.below hE h2.lt, (h3.below hE (Nat.le_refl _)).wide (Nat.le_refl _) hE.size⟩)
        · simp only at hE h ⊢; first | exact h | exact (put_getD_ne _ _ _ _ (by decide)).trans h | (obtain ⟨A, c, e, h⟩ := h; first | exact ⟨A, c, (put_getD_ne _ _ _ _ (by decide)).trans e, (h.below hE (Nat.le_refl _)).wide (Nat.le_refl _) hE.size⟩ | exact ⟨A, c, e, hE.row (by decide) h⟩) | (obtain ⟨q, cs, e, h1, h2, h3⟩ := h; first | exact ⟨q, cs, (put_getD_ne _ _ _ _ (by decide)).trans e, h1, h2, h3.below hE h3.lt⟩ | (obtain ⟨cs', g1, g2⟩ := hE.box h3; exact ⟨q, cs', e, h1, g1.trans h2, g2⟩)) | (obtain ⟨q, A, c, e, h1, h2, h3⟩ := h; exact ⟨q, A, c, (put_getD_ne _ _ _ _ (by decide)).trans e, h1, h2.below hE h2.lt, (h3.below hE (Nat.le_refl _)).wide (Nat.le_refl _) hE.size⟩)
        · exact absurd rfl hij
        · simp only at hE h ⊢; first | exact h | exact (put_getD_ne _ _ _ _ (by decide)).trans h | (obtain ⟨A, c, e, h⟩ := h; first | exact ⟨A, c, (put_getD_ne _ _ _ _ (by decide)).trans e, (h.below hE (Nat.le_refl _)).wide (Nat.le_refl _) hE.size⟩ | exact ⟨A, c, e, hE.row (by decide) h⟩) | (obtain ⟨q, cs, e, h1, h2, h3⟩ := h; first | exact ⟨q, cs, (put_getD_ne _ _ _ _ (by decide)).trans e, h1, h2, h3.below hE h3.lt⟩ | (obtain ⟨cs', g1, g2⟩ := hE.box h3; exact ⟨q, cs', e, h1, g1.trans h2, g2⟩)) | (obtain ⟨q, A, c, e, h1, h2, h3⟩ := h; exact ⟨q, A, c, (put_getD_ne _ _ _ _ (by decide)).trans e, h1, h2.below hE h2.lt, (h3.below hE (Nat.le_refl _)).wide (Nat.le_refl _) hE.size⟩)
        · simp only at hE h ⊢; first | exact h | exact (put_getD_ne _ _ _ _ (by decide)).trans h | (obtain ⟨A, c, e, h⟩ := h; first | exact ⟨A, c, (put_getD_ne _ _ _ _ (by decide)).trans e, (h.below hE (Nat.le_refl _)).wide (Nat.le_refl _) hE.size⟩ | exact ⟨A, c, e, hE.row (by decide) h⟩) | (obtain ⟨q, cs, e, h1, h2, h3⟩ := h; first | exact ⟨q, cs, (put_getD_ne _ _ _ _ (by decide)).trans e, h1, h2, h3.below hE h3.lt⟩ | (obtain ⟨cs', g1, g2⟩ := hE.box h3; exact ⟨q, cs', e, h1, g1.trans h2, g2⟩)) | (obtain ⟨q, A, c, e, h1, h2, h3⟩ := h; exact ⟨q, A, c, (put_getD_ne _ _ _ _ (by decide)).trans e, h1, h2.below hE h2.lt, (h3.below hE (Nat.le_refl _)).wide (Nat.le_refl _) hE.size⟩)
        · simp only at hE h ⊢; first | exact h | exact (put_getD_ne _ _ _ _ (by decide)).trans h | (obtain ⟨A, c, e, h⟩ := h; first | exact ⟨A, c, (put_getD_ne _ _ _ _ (by decide)).trans e, (h.below hE (Nat.le_refl _)).wide (Nat.le_refl _) hE.size⟩ | exact ⟨A, c, e, hE.row (by decide) h⟩) | (obtain ⟨q, cs, e, h1, h2, h3⟩ := h; first | exact ⟨q, cs, (put_getD_ne _ _ _ _ (by decide)).trans e, h1, h2, h3.below hE h3.lt⟩ | (obtain ⟨cs', g1, g2⟩ := hE.box h3; exact ⟨q, cs', e, h1, g1.trans h2, g2⟩)) | (obtain ⟨q, A, c, e, h1, h2, h3⟩ := h; exact ⟨q, A, c, (put_getD_ne _ _ _ _ (by decide)).trans e, h1, h2.below hE h2.lt, (h3.below hE (Nat.le_refl _)).wide (Nat.le_refl _) hE.size⟩)
        · simp only at hE h ⊢; first | exact h | exact (put_getD_ne _ _ _ _ (by decide)).trans h | (obtain ⟨A, c, e, h⟩ := h; first | exact ⟨A, c, (put_getD_ne _ _ _ _ (by decide)).trans e, (h.below hE (Nat.le_refl _)).wide (Nat.le_refl _) hE.size⟩ | exact ⟨A, c, e, hE.row (by decide) h⟩) | (obtain ⟨q, cs, e, h1, h2, h3⟩ := h; first | exact ⟨q, cs, (put_getD_ne _ _ _ _ (by decide)).trans e, h1, h2, h3.below hE h3.lt⟩ | (obtain ⟨cs', g1, g2⟩ := hE.box h3; exact ⟨q, cs', e, h1, g1.trans h2, g2⟩)) | (obtain ⟨q, A, c, e, h1, h2, h3⟩ := h; exact ⟨q, A, c, (put_getD_ne _ _ _ _ (by decide)).trans e, h1, h2.below hE h2.lt, (h3.below hE (Nat.le_refl _)).wide (Nat.le_refl _) hE.size⟩)
        · simp only at hE h ⊢; first | exact h | exact (put_getD_ne _ _ _ _ (by decide)).trans h | (obtain ⟨A, c, e, h⟩ := h; first | exact ⟨A, c, (put_getD_ne _ _ _ _ (by decide)).trans e, (h.below hE (Nat.le_refl _)).wide (Nat.le_refl _) hE.size⟩ | exact ⟨A, c, e, hE.row (by decide) h⟩) | (obtain ⟨q, cs, e, h1, h2, h3⟩ := h; first | exact ⟨q, cs, (put_getD_ne _ _ _ _ (by decide)).trans e, h1, h2, h3.below hE h3.lt⟩ | (obtain ⟨cs', g1, g2⟩ := hE.box h3; exact ⟨q, cs', e, h1, g1.trans h2, g2⟩)) | (obtain ⟨q, A, c, e, h1, h2, h3⟩ := h; exact ⟨q, A, c, (put_getD_ne _ _ _ _ (by decide)).trans e, h1, h2.below hE h2.lt, (h3.below hE (Nat.le_refl _)).wide (Nat.le_refl _) hE.size⟩)
      · rcases hi with rfl | rfl | rfl | rfl | rfl | rfl | rfl | rfl | rfl
        · simp only at hE h ⊢; first | exact h | exact (put_getD_ne _ _ _ _ (by decide)).trans h | (obtain ⟨A, c, e, h⟩ := h; first | exact ⟨A, c, (put_getD_ne _ _ _ _ (by decide)).trans e, (h.below hE (Nat.le_refl _)).wide (Nat.le_refl _) hE.size⟩ | exact ⟨A, c, e, hE.row (by decide) h⟩) | (obtain ⟨q, cs, e, h1, h2, h3⟩ := h; first | exact ⟨q, cs, (put_getD_ne _ _ _ _ (by decide)).trans e, h1, h2, h3.below hE h3.lt⟩ | (obtain ⟨cs', g1, g2⟩ := hE.box h3; exact ⟨q, cs', e, h1, g1.trans h2, g2⟩)) | (obtain ⟨q, A, c, e, h1, h2, h3⟩ := h; exact ⟨q, A, c, (put_getD_ne _ _ _ _ (by decide)).trans e, h1, h2.below hE h2.lt, (h3.below hE (Nat.le_refl _)).wide (Nat.le_refl _) hE.size⟩)
        · simp only at hE h ⊢; first | exact h | exact (put_getD_ne _ _ _ _ (by decide)).trans h | (obtain ⟨A, c, e, h⟩ := h; first | exact ⟨A, c, (put_getD_ne _ _ _ _ (by decide)).trans e, (h.below hE (Nat.le_refl _)).wide (Nat.le_refl _) hE.size⟩ | exact ⟨A, c, e, hE.row (by decide) h⟩) | (obtain ⟨q, cs, e, h1, h2, h3⟩ := h; first | exact ⟨q, cs, (put_getD_ne _ _ _ _ (by decide)).trans e, h1, h2, h3.below hE h3.lt⟩ | (obtain ⟨cs', g1, g2⟩ := hE.box h3; exact ⟨q, cs', e, h1, g1.trans h2, g2⟩)) | (obtain ⟨q, A, c, e, h1, h2, h3⟩ := h; exact ⟨q, A, c, (put_getD_ne _ _ _ _ (by decide)).trans e, h1, h2.below hE h2.lt, (h3.below hE (Nat.le_refl _)).wide (Nat.le_refl _) hE.size⟩)
        · simp only at hE h ⊢; first | exact h | exact (put_getD_ne _ _ _ _ (by decide)).trans h | (obtain ⟨A, c, e, h⟩ := h; first | exact ⟨A, c, (put_getD_ne _ _ _ _ (by decide)).trans e, (h.below hE (Nat.le_refl _)).wide (Nat.le_refl _) hE.size⟩ | exact ⟨A, c, e, hE.row (by decide) h⟩) | (obtain ⟨q, cs, e, h1, h2, h3⟩ := h; first | exact ⟨q, cs, (put_getD_ne _ _ _ _ (by decide)).trans e, h1, h2, h3.below hE h3.lt⟩ | (obtain ⟨cs', g1, g2⟩ := hE.box h3; exact ⟨q, cs', e, h1, g1.trans h2, g2⟩)) | (obtain ⟨q, A, c, e, h1, h2, h3⟩ := h; exact ⟨q, A, c, (put_getD_ne _ _ _ _ (by decide)).trans e, h1, h2.below hE h2.lt, (h3.below hE (Nat.le_refl _)).wide (Nat.le_refl _) hE.size⟩)
        · simp only at hE h ⊢; first | exact h | exact (put_getD_ne _ _ _ _ (by decide)).trans h | (obtain ⟨A, c, e, h⟩ := h; first | exact ⟨A, c, (put_getD_ne _ _ _ _ (by decide)).trans e, (h.below hE (Nat.le_refl _)).wide (Nat.le_refl _) hE.size⟩ | exact ⟨A, c, e, hE.row (by decide) h⟩) | (obtain ⟨q, cs, e, h1, h2, h3⟩ := h; first | exact ⟨q, cs, (put_getD_ne _ _ _ _ (by decide)).trans e, h1, h2, h3.below hE h3.lt⟩ | (obtain ⟨cs', g1, g2⟩ := hE.box h3; exact ⟨q, cs', e, h1, g1.trans h2, g2⟩)) | (obtain ⟨q, A, c, e, h1, h2, h3⟩ := h; exact ⟨q, A, c, (put_getD_ne _ _ _ _ (by decide)).trans e, h1, h2.below hE h2.lt, (h3.below hE (Nat.le_refl _)).wide (Nat.le_refl _) hE.size⟩)
        · exact absurd rfl hij
        · simp only at hE h ⊢; first | exact h | exact (put_getD_ne _ _ _ _ (by decide)).trans h | (obtain ⟨A, c, e, h⟩ := h; first | exact ⟨A, c, (put_getD_ne _ _ _ _ (by decide)).trans e, (h.below hE (Nat.le_refl _)).wide (Nat.le_refl _) hE.size⟩ | exact ⟨A, c, e, hE.row (by decide) h⟩) | (obtain ⟨q, cs, e, h1, h2, h3⟩ := h; first | exact ⟨q, cs, (put_getD_ne _ _ _ _ (by decide)).trans e, h1, h2, h3.below hE h3.lt⟩ | (obtain ⟨cs', g1, g2⟩ := hE.box h3; exact ⟨q, cs', e, h1, g1.trans h2, g2⟩)) | (obtain ⟨q, A, c, e, h1, h2, h3⟩ := h; exact ⟨q, A, c, (put_getD_ne _ _ _ _ (by decide)).trans e, h1, h2.below hE h2.lt, (h3.below hE (Nat.le_refl _)).wide (Nat.le_refl _) hE.size⟩)
        · simp only at hE h ⊢; first | exact h | exact (put_getD_ne _ _ _ _ (by decide)).trans h | (obtain ⟨A, c, e, h⟩ := h; first | exact ⟨A, c, (put_getD_ne _ _ _ _ (by decide)).trans e, (h.below hE (Nat.le_refl _)).wide (Nat.le_refl _) hE.size⟩ | exact ⟨A, c, e, hE.row (by decide) h⟩) | (obtain ⟨q, cs, e, h1, h2, h3⟩ := h; first | exact ⟨q, cs, (put_getD_ne _ _ _ _ (by decide)).trans e, h1, h2, h3.below hE h3.lt⟩ | (obtain ⟨cs', g1, g2⟩ := hE.box h3; exact ⟨q, cs', e, h1, g1.trans h2, g2⟩)) | (obtain ⟨q, A, c, e, h1, h2, h3⟩ := h; exact ⟨q, A, c, (put_getD_ne _ _ _ _ (by decide)).trans e, h1, h2.below hE h2.lt, (h3.below hE (Nat.le_refl _)).wide (Nat.le_refl _) hE.size⟩)
        · simp only at hE h ⊢; first | exact h | exact (put_getD_ne _ _ _ _ (by decide)).trans h | (obtain ⟨A, c, e, h⟩ := h; first | exact ⟨A, c, (put_getD_ne _ _ _ _ (by decide)).trans e, (h.below hE (Nat.le_refl _)).wide (Nat.le_refl _) hE.size⟩ | exact ⟨A, c, e, hE.row (by decide) h⟩) | (obtain ⟨q, cs, e, h1, h2, h3⟩ := h; first | exact ⟨q, cs, (put_getD_ne _ _ _ _ (by decide)).trans e, h1, h2, h3.below hE h3.lt⟩ | (obtain ⟨cs', g1, g2⟩ := hE.box h3; exact ⟨q, cs', e, h1, g1.trans h2, g2⟩)) | (obtain ⟨q, A, c, e, h1, h2, h3⟩ := h; exact ⟨q, A, c, (put_getD_ne _ _ _ _ (by decide)).trans e, h1, h2.below hE h2.lt, (h3.below hE (Nat.le_refl _)).wide (Nat.le_refl _) hE.size⟩)
        · simp only at hE h ⊢; first | exact h | exact (put_getD_ne _ _ _ _ (by decide)).trans h | (obtain ⟨A, c, e, h⟩ := h; first | exact ⟨A, c, (put_getD_ne _ _ _ _ (by decide)).trans e, (h.below hE (Nat.le_refl _)).wide (Nat.le_refl _) hE.size⟩ | exact ⟨A, c, e, hE.row (by decide) h⟩) | (obtain ⟨q, cs, e, h1, h2, h3⟩ := h; first | exact ⟨q, cs, (put_getD_ne _ _ _ _ (by decide)).trans e, h1, h2, h3.below hE h3.lt⟩ | (obtain ⟨cs', g1, g2⟩ := hE.box h3; exact ⟨q, cs', e, h1, g1.trans h2, g2⟩)) | (obtain ⟨q, A, c, e, h1, h2, h3⟩ := h; exact ⟨q, A, c, (put_getD_ne _ _ _ _ (by decide)).trans e, h1, h2.below hE h2.lt, (h3.below hE (Nat.le_refl _)).wide (Nat.le_refl _) hE.size⟩)
      · rcases hi with rfl | rfl | rfl | rfl | rfl | rfl | rfl | rfl | rfl
        · simp only at hE h ⊢; first | exact h | exact (put_getD_ne _ _ _ _ (by decide)).trans h | (obtain ⟨A, c, e, h⟩ := h; first | exact ⟨A, c, (put_getD_ne _ _ _ _ (by decide)).trans e, (h.below hE (Nat.le_refl _)).wide (Nat.le_refl _) hE.size⟩ | exact ⟨A, c, e, hE.row (by decide) h⟩) | (obtain ⟨q, cs, e, h1, h2, h3⟩ := h; first | exact ⟨q, cs, (put_getD_ne _ _ _ _ (by decide)).trans e, h1, h2, h3.below hE h3.lt⟩ | (obtain ⟨cs', g1, g2⟩ := hE.box h3; exact ⟨q, cs', e, h1, g1.trans h2, g2⟩)) | (obtain ⟨q, A, c, e, h1, h2, h3⟩ := h; exact ⟨q, A, c, (put_getD_ne _ _ _ _ (by decide)).trans e, h1, h2.below hE h2.lt, (h3.below hE (Nat.le_refl _)).wide (Nat.le_refl _) hE.size⟩)
        · simp only at hE h ⊢; first | exact h | exact (put_getD_ne _ _ _ _ (by decide)).trans h | (obtain ⟨A, c, e, h⟩ := h; first | exact ⟨A, c, (put_getD_ne _ _ _ _ (by decide)).trans e, (h.below hE (Nat.le_refl _)).wide (Nat.le_refl _) hE.size⟩ | exact ⟨A, c, e, hE.row (by decide) h⟩) | (obtain ⟨q, cs, e, h1, h2, h3⟩ := h; first | exact ⟨q, cs, (put_getD_ne _ _ _ _ (by decide)).trans e, h1, h2, h3.below hE h3.lt⟩ | (obtain ⟨cs', g1, g2⟩ := hE.box h3; exact ⟨q, cs', e, h1, g1.trans h2, g2⟩)) | (obtain ⟨q, A, c, e, h1, h2, h3⟩ := h; exact ⟨q, A, c, (put_getD_ne _ _ _ _ (by decide)).trans e, h1, h2.below hE h2.lt, (h3.below hE (Nat.le_refl _)).wide (Nat.le_refl _) hE.size⟩)
        · simp only at hE h ⊢; first | exact h | exact (put_getD_ne _ _ _ _ (by decide)).trans h | (obtain ⟨A, c, e, h⟩ := h; first | exact ⟨A, c, (put_getD_ne _ _ _ _ (by decide)).trans e, (h.below hE (Nat.le_refl _)).wide (Nat.le_refl _) hE.size⟩ | exact ⟨A, c, e, hE.row (by decide) h⟩) | (obtain ⟨q, cs, e, h1, h2, h3⟩ := h; first | exact ⟨q, cs, (put_getD_ne _ _ _ _ (by decide)).trans e, h1, h2, h3.below hE h3.lt⟩ | (obtain ⟨cs', g1, g2⟩ := hE.box h3; exact ⟨q, cs', e, h1, g1.trans h2, g2⟩)) | (obtain ⟨q, A, c, e, h1, h2, h3⟩ := h; exact ⟨q, A, c, (put_getD_ne _ _ _ _ (by decide)).trans e, h1, h2.below hE h2.lt, (h3.below hE (Nat.le_refl _)).wide (Nat.le_refl _) hE.size⟩)
        · simp only at hE h ⊢; first | exact h | exact (put_getD_ne _ _ _ _ (by decide)).trans h | (obtain ⟨A, c, e, h⟩ := h; first | exact ⟨A, c, (put_getD_ne _ _ _ _ (by decide)).trans e, (h.below hE (Nat.le_refl _)).wide (Nat.le_refl _) hE.size⟩ | exact ⟨A, c, e, hE.row (by decide) h⟩) | (obtain ⟨q, cs, e, h1, h2, h3⟩ := h; first | exact ⟨q, cs, (put_getD_ne _ _ _ _ (by decide)).trans e, h1, h2, h3.below hE h3.lt⟩ | (obtain ⟨cs', g1, g2⟩ := hE.box h3; exact ⟨q, cs', e, h1, g1.trans h2, g2⟩)) | (obtain ⟨q, A, c, e, h1, h2, h3⟩ := h; exact ⟨q, A, c, (put_getD_ne _ _ _ _ (by decide)).trans e, h1, h2.below hE h2.lt, (h3.below hE (Nat.le_refl _)).wide (Nat.le_refl _) hE.size⟩)
        · simp only at hE h ⊢; first | exact h | exact (put_getD_ne _ _ _ _ (by decide)).trans h | (obtain ⟨A, c, e, h⟩ := h; first | exact ⟨A, c, (put_getD_ne _ _ _ _ (by decide)).trans e, (h.below hE (Nat.le_refl _)).wide (Nat.le_refl _) hE.size⟩ | exact ⟨A, c, e, hE.row (by decide) h⟩) | (obtain ⟨q, cs, e, h1, h2, h3⟩ := h; first | exact ⟨q, cs, (put_getD_ne _ _ _ _ (by decide)).trans e, h1, h2, h3.below hE h3.lt⟩ | (obtain ⟨cs', g1, g2⟩ := hE.box h3; exact ⟨q, cs', e, h1, g1.trans h2, g2⟩)) | (obtain ⟨q, A, c, e, h1, h2, h3⟩ := h; exact ⟨q, A, c, (put_getD_ne _ _ _ _ (by decide)).trans e, h1, h2.below hE h2.lt, (h3.below hE (Nat.le_refl _)).wide (Nat.le_refl _) hE.size⟩)
        · exact absurd rfl hij
        · simp only at hE h ⊢; first | exact h | exact (put_getD_ne _ _ _ _ (by decide)).trans h | (obtain ⟨A, c, e, h⟩ := h; first | exact ⟨A, c, (put_getD_ne _ _ _ _ (by decide)).trans e, (h.below hE (Nat.le_refl _)).wide (Nat.le_refl _) hE.size⟩ | exact ⟨A, c, e, hE.row (by decide) h⟩) | (obtain ⟨q, cs, e, h1, h2, h3⟩ := h; first | exact ⟨q, cs, (put_getD_ne _ _ _ _ (by decide)).trans e, h1, h2, h3.below hE h3.lt⟩ | (obtain ⟨cs', g1, g2⟩ := hE.box h3; exact ⟨q, cs', e, h1, g1.trans h2, g2⟩)) | (obtain ⟨q, A, c, e, h1, h2, h3⟩ := h; exact ⟨q, A, c, (put_getD_ne _ _ _ _ (by decide)).trans e, h1, h2.below hE h2.lt, (h3.below hE (Nat.le_refl _)).wide (Nat.le_refl _) hE.size⟩)
        · simp only at hE h ⊢; first | exact h | exact (put_getD_ne _ _ _ _ (by decide)).trans h | (obtain ⟨A, c, e, h⟩ := h; first | exact ⟨A, c, (put_getD_ne _ _ _ _ (by decide)).trans e, (h.below hE (Nat.le_refl _)).wide (Nat.le_refl _) hE.size⟩ | exact ⟨A, c, e, hE.row (by decide) h⟩) | (obtain ⟨q, cs, e, h1, h2, h3⟩ := h; first | exact ⟨q, cs, (put_getD_ne _ _ _ _ (by decide)).trans e, h1, h2, h3.below hE h3.lt⟩ | (obtain ⟨cs', g1, g2⟩ := hE.box h3; exact ⟨q, cs', e, h1, g1.trans h2, g2⟩)) | (obtain ⟨q, A, c, e, h1, h2, h3⟩ := h; exact ⟨q, A, c, (put_getD_ne _ _ _ _ (by decide)).trans e, h1, h2.below hE h2.lt, (h3.below hE (Nat.le_refl _)).wide (Nat.le_refl _) hE.size⟩)
        · simp only at hE h ⊢; first | exact h | exact (put_getD_ne _ _ _ _ (by decide)).trans h | (obtain ⟨A, c, e, h⟩ := h; first | exact ⟨A, c, (put_getD_ne _ _ _ _ (by decide)).trans e, (h.below hE (Nat.le_refl _)).wide (Nat.le_refl _) hE.size⟩ | exact ⟨A, c, e, hE.row (by decide) h⟩) | (obtain ⟨q, cs, e, h1, h2, h3⟩ := h; first | exact ⟨q, cs, (put_getD_ne _ _ _ _ (by decide)).trans e, h1, h2, h3.below hE h3.lt⟩ | (obtain ⟨cs', g1, g2⟩ := hE.box h3; exact ⟨q, cs', e, h1, g1.trans h2, g2⟩)) | (obtain ⟨q, A, c, e, h1, h2, h3⟩ := h; exact ⟨q, A, c, (put_getD_ne _ _ _ _ (by decide)).trans e, h1, h2.below hE h2.lt, (h3.below hE (Nat.le_refl _)).wide (Nat.le_refl _) hE.size⟩)
      · rcases hi with rfl | rfl | rfl | rfl | rfl | rfl | rfl | rfl | rfl
        · simp only at hE h ⊢; first | exact h | exact (put_getD_ne _ _ _ _ (by decide)).trans h | (obtain ⟨A, c, e, h⟩ := h; first | exact ⟨A, c, (put_getD_ne _ _ _ _ (by decide)).trans e, (h.below hE (Nat.le_refl _)).wide (Nat.le_refl _) hE.size⟩ | exact ⟨A, c, e, hE.row (by decide) h⟩) | (obtain ⟨q, cs, e, h1, h2, h3⟩ := h; first | exact ⟨q, cs, (put_getD_ne _ _ _ _ (by decide)).trans e, h1, h2, h3.below hE h3.lt⟩ | (obtain ⟨cs', g1, g2⟩ := hE.box h3; exact ⟨q, cs', e, h1, g1.trans h2, g2⟩)) | (obtain ⟨q, A, c, e, h1, h2, h3⟩ := h; exact ⟨q, A, c, (put_getD_ne _ _ _ _ (by decide)).trans e, h1, h2.below hE h2.lt, (h3.below hE (Nat.le_refl _)).wide (Nat.le_refl _) hE.size⟩)
        · simp only at hE h ⊢; first | exact h | exact (put_getD_ne _ _ _ _ (by decide)).trans h | (obtain ⟨A, c, e, h⟩ := h; first | exact ⟨A, c, (put_getD_ne _ _ _ _ (by decide)).trans e, (h.below hE (Nat.le_refl _)).wide (Nat.le_refl _) hE.size⟩ | exact ⟨A, c, e, hE.row (by decide) h⟩) | (obtain ⟨q, cs, e, h1, h2, h3⟩ := h; first | exact ⟨q, cs, (put_getD_ne _ _ _ _ (by decide)).trans e, h1, h2, h3.below hE h3.lt⟩ | (obtain ⟨cs', g1, g2⟩ := hE.box h3; exact ⟨q, cs', e, h1, g1.trans h2, g2⟩)) | (obtain ⟨q, A, c, e, h1, h2, h3⟩ := h; exact ⟨q, A, c, (put_getD_ne _ _ _ _ (by decide)).trans e, h1, h2.below hE h2.lt, (h3.below hE (Nat.le_refl _)).wide (Nat.le_refl _) hE.size⟩)
        · simp only at hE h ⊢; first | exact h | exact (put_getD_ne _ _ _ _ (by decide)).trans h | (obtain ⟨A, c, e, h⟩ := h; first | exact ⟨A, c, (put_getD_ne _ _ _ _ (by decide)).trans e, (h.below hE (Nat.le_refl _)).wide (Nat.le_refl _) hE.size⟩ | exact ⟨A, c, e, hE.row (by decide) h⟩) | (obtain ⟨q, cs, e, h1, h2, h3⟩ := h; first | exact ⟨q, cs, (put_getD_ne _ _ _ _ (by decide)).trans e, h1, h2, h3.below hE h3.lt⟩ | (obtain ⟨cs', g1, g2⟩ := hE.box h3; exact ⟨q, cs', e, h1, g1.trans h2, g2⟩)) | (obtain ⟨q, A, c, e, h1, h2, h3⟩ := h; exact ⟨q, A, c, (put_getD_ne _ _ _ _ (by decide)).trans e, h1, h2.below hE h2.lt, (h3.below hE (Nat.le_refl _)).wide (Nat.le_refl _) hE.size⟩)
        · simp only at hE h ⊢; first | exact h | exact (put_getD_ne _ _ _ _ (by decide)).trans h | (obtain ⟨A, c, e, h⟩ := h; first | exact ⟨A, c, (put_getD_ne _ _ _ _ (by decide)).trans e, (h.below hE (Nat.le_refl _)).wide (Nat.le_refl _) hE.size⟩ | exact ⟨A, c, e, hE.row (by decide) h⟩) | (obtain ⟨q, cs, e, h1, h2, h3⟩ := h; first | exact ⟨q, cs, (put_getD_ne _ _ _ _ (by decide)).trans e, h1, h2, h3.below hE h3.lt⟩ | (obtain ⟨cs', g1, g2⟩ := hE.box h3; exact ⟨q, cs', e, h1, g1.trans h2, g2⟩)) | (obtain ⟨q, A, c, e, h1, h2, h3⟩ := h; exact ⟨q, A, c, (put_getD_ne _ _ _ _ (by decide)).trans e, h1, h2.below hE h2.lt, (h3.below hE (Nat.le_refl _)).wide (Nat.le_refl _) hE.size⟩)
        · simp only at hE h ⊢; first | exact h | exact (put_getD_ne _ _ _ _ (by decide)).trans h | (obtain ⟨A, c, e, h⟩ := h; first | exact ⟨A, c, (put_getD_ne _ _ _ _ (by decide)).trans e, (h.below hE (Nat.le_refl _)).wide (Nat.le_refl _) hE.size⟩ | exact ⟨A, c, e, hE.row (by decide) h⟩) | (obtain ⟨q, cs, e, h1, h2, h3⟩ := h; first | exact ⟨q, cs, (put_getD_ne _ _ _ _ (by decide)).trans e, h1, h2, h3.below hE h3.lt⟩ | (obtain ⟨cs', g1, g2⟩ := hE.box h3; exact ⟨q, cs', e, h1, g1.trans h2, g2⟩)) | (obtain ⟨q, A, c, e, h1, h2, h3⟩ := h; exact ⟨q, A, c, (put_getD_ne _ _ _ _ (by decide)).trans e, h1, h2.below hE h2.lt, (h3.below hE (Nat.le_refl _)).wide (Nat.le_refl _) hE.size⟩)
        · simp only at hE h ⊢; first | exact h | exact (put_getD_ne _ _ _ _ (by decide)).trans h | (obtain ⟨A, c, e, h⟩ := h; first | exact ⟨A, c, (put_getD_ne _ _ _ _ (by decide)).trans e, (h.below hE (Nat.le_refl _)).wide (Nat.le_refl _) hE.size⟩ | exact ⟨A, c, e, hE.row (by decide) h⟩) | (obtain ⟨q, cs, e, h1, h2, h3⟩ := h; first | exact ⟨q, cs, (put_getD_ne _ _ _ _ (by decide)).trans e, h1, h2, h3.below hE h3.lt⟩ | (obtain ⟨cs', g1, g2⟩ := hE.box h3; exact ⟨q, cs', e, h1, g1.trans h2, g2⟩)) | (obtain ⟨q, A, c, e, h1, h2, h3⟩ := h; exact ⟨q, A, c, (put_getD_ne _ _ _ _ (by decide)).trans e, h1, h2.below hE h2.lt, (h3.below hE (Nat.le_refl _)).wide (Nat.le_refl _) hE.size⟩)
        · exact absurd rfl hij
        · simp only at hE h ⊢; first | exact h | exact (put_getD_ne _ _ _ _ (by decide)).trans h | (obtain ⟨A, c, e, h⟩ := h; first | exact ⟨A, c, (put_getD_ne _ _ _ _ (by decide)).trans e, (h.below hE (Nat.le_refl _)).wide (Nat.le_refl _) hE.size⟩ | exact ⟨A, c, e, hE.row (by decide) h⟩) | (obtain ⟨q, cs, e, h1, h2, h3⟩ := h; first | exact ⟨q, cs, (put_getD_ne _ _ _ _ (by decide)).trans e, h1, h2, h3.below hE h3.lt⟩ | (obtain ⟨cs', g1, g2⟩ := hE.box h3; exact ⟨q, cs', e, h1, g1.trans h2, g2⟩)) | (obtain ⟨q, A, c, e, h1, h2, h3⟩ := h; exact ⟨q, A, c, (put_getD_ne _ _ _ _ (by decide)).trans e, h1, h2.below hE h2.lt, (h3.below hE (Nat.le_refl _)).wide (Nat.le_refl _) hE.size⟩)
        · simp only at hE h ⊢; first | exact h | exact (put_getD_ne _ _ _ _ (by decide)).trans h | (obtain ⟨A, c, e, h⟩ := h; first | exact ⟨A, c, (put_getD_ne _ _ _ _ (by decide)).trans e, (h.below hE (Nat.le_refl _)).wide (Nat.le_refl _) hE.size⟩ | exact ⟨A, c, e, hE.row (by decide) h⟩) | (obtain ⟨q, cs, e, h1, h2, h3⟩ := h; first | exact ⟨q, cs, (put_getD_ne _ _ _ _ (by decide)).trans e, h1, h2, h3.below hE h3.lt⟩ | (obtain ⟨cs', g1, g2⟩ := hE.box h3; exact ⟨q, cs', e, h1, g1.trans h2, g2⟩)) | (obtain ⟨q, A, c, e, h1, h2, h3⟩ := h; exact ⟨q, A, c, (put_getD_ne _ _ _ _ (by decide)).trans e, h1, h2.below hE h2.lt, (h3.below hE (Nat.le_refl _)).wide (Nat.le_refl _) hE.size⟩)
      · rcases hi with rfl | rfl | rfl | rfl | rfl | rfl | rfl | rfl | rfl
        · simp only at hE h ⊢; first | exact h | exact (put_getD_ne _ _ _ _ (by decide)).trans h | (obtain ⟨A, c, e, h⟩ := h; first | exact ⟨A, c, (put_getD_ne _ _ _ _ (by decide)).trans e, (h.below hE (Nat.le_refl _)).wide (Nat.le_refl _) hE.size⟩ | exact ⟨A, c, e, hE.row (by decide) h⟩) | (obtain ⟨q, cs, e, h1, h2, h3⟩ := h; first | exact ⟨q, cs, (put_getD_ne _ _ _ _ (by decide)).trans e, h1, h2, h3.below hE h3.lt⟩ | (obtain ⟨cs', g1, g2⟩ := hE.box h3; exact ⟨q, cs', e, h1, g1.trans h2, g2⟩)) | (obtain ⟨q, A, c, e, h1, h2, h3⟩ := h; exact ⟨q, A, c, (put_getD_ne _ _ _ _ (by decide)).trans e, h1, h2.below hE h2.lt, (h3.below hE (Nat.le_refl _)).wide (Nat.le_refl _) hE.size⟩)
        · simp only at hE h ⊢; first | exact h | exact (put_getD_ne _ _ _ _ (by decide)).trans h | (obtain ⟨A, c, e, h⟩ := h; first | exact ⟨A, c, (put_getD_ne _ _ _ _ (by decide)).trans e, (h.below hE (Nat.le_refl _)).wide (Nat.le_refl _) hE.size⟩ | exact ⟨A, c, e, hE.row (by decide) h⟩) | (obtain ⟨q, cs, e, h1, h2, h3⟩ := h; first | exact ⟨q, cs, (put_getD_ne _ _ _ _ (by decide)).trans e, h1, h2, h3.below hE h3.lt⟩ | (obtain ⟨cs', g1, g2⟩ := hE.box h3; exact ⟨q, cs', e, h1, g1.trans h2, g2⟩)) | (obtain ⟨q, A, c, e, h1, h2, h3⟩ := h; exact ⟨q, A, c, (put_getD_ne _ _ _ _ (by decide)).trans e, h1, h2.below hE h2.lt, (h3.below hE (Nat.le_refl _)).wide (Nat.le_refl _) hE.size⟩)
        · simp only at hE h ⊢; first | exact h | exact (put_getD_ne _ _ _ _ (by decide)).trans h | (obtain ⟨A, c, e, h⟩ := h; first | exact ⟨A, c, (put_getD_ne _ _ _ _ (by decide)).trans e, (h.below hE (Nat.le_refl _)).wide (Nat.le_refl _) hE.size⟩ | exact ⟨A, c, e, hE.row (by decide) h⟩) | (obtain ⟨q, cs, e, h1, h2, h3⟩ := h; first | exact ⟨q, cs, (put_getD_ne _ _ _ _ (by decide)).trans e, h1, h2, h3.below hE h3.lt⟩ | (obtain ⟨cs', g1, g2⟩ := hE.box h3; exact ⟨q, cs', e, h1, g1.trans h2, g2⟩)) | (obtain ⟨q, A, c, e, h1, h2, h3⟩ := h; exact ⟨q, A, c, (put_getD_ne _ _ _ _ (by decide)).trans e, h1, h2.below hE h2.lt, (h3.below hE (Nat.le_refl _)).wide (Nat.le_refl _) hE.size⟩)
        · simp only at hE h ⊢; first | exact h | exact (put_getD_ne _ _ _ _ (by decide)).trans h | (obtain ⟨A, c, e, h⟩ := h; first | exact ⟨A, c, (put_getD_ne _ _ _ _ (by decide)).trans e, (h.below hE (Nat.le_refl _)).wide (Nat.le_refl _) hE.size⟩ | exact ⟨A, c, e, hE.row (by decide) h⟩) | (obtain ⟨q, cs, e, h1, h2, h3⟩ := h; first | exact ⟨q, cs, (put_getD_ne _ _ _ _ (by decide)).trans e, h1, h2, h3.below hE h3.lt⟩ | (obtain ⟨cs', g1, g2⟩ := hE.box h3; exact ⟨q, cs', e, h1, g1.trans h2, g2⟩)) | (obtain ⟨q, A, c, e, h1, h2, h3⟩ := h; exact ⟨q, A, c, (put_getD_ne _ _ _ _ (by decide)).trans e, h1, h2.below hE h2.lt, (h3.below hE (Nat.le_refl _)).wide (Nat.le_refl _) hE.size⟩)
        · simp only at hE h ⊢; first | exact h | exact (put_getD_ne _ _ _ _ (by decide)).trans h | (obtain ⟨A, c, e, h⟩ := h; first | exact ⟨A, c, (put_getD_ne _ _ _ _ (by decide)).trans e, (h.below hE (Nat.le_refl _)).wide (Nat.le_refl _) hE.size⟩ | exact ⟨A, c, e, hE.row (by decide) h⟩) | (obtain ⟨q, cs, e, h1, h2, h3⟩ := h; first | exact ⟨q, cs, (put_getD_ne _ _ _ _ (by decide)).trans e, h1, h2, h3.below hE h3.lt⟩ | (obtain ⟨cs', g1, g2⟩ := hE.box h3; exact ⟨q, cs', e, h1, g1.trans h2, g2⟩)) | (obtain ⟨q, A, c, e, h1, h2, h3⟩ := h; exact ⟨q, A, c, (put_getD_ne _ _ _ _ (by decide)).trans e, h1, h2.below hE h2.lt, (h3.below hE (Nat.le_refl _)).wide (Nat.le_refl _) hE.size⟩)
        · simp only at hE h ⊢; first | exact h | exact (put_getD_ne _ _ _ _ (by decide)).trans h | (obtain ⟨A, c, e, h⟩ := h; first | exact ⟨A, c, (put_getD_ne _ _ _ _ (by decide)).trans e, (h.below hE (Nat.le_refl _)).wide (Nat.le_refl _) hE.size⟩ | exact ⟨A, c, e, hE.row (by decide) h⟩) | (obtain ⟨q, cs, e, h1, h2, h3⟩ := h; first | exact ⟨q, cs, (put_getD_ne _ _ _ _ (by decide)).trans e, h1, h2, h3.below hE h3.lt⟩ | (obtain ⟨cs', g1, g2⟩ := hE.box h3; exact ⟨q, cs', e, h1, g1.trans h2, g2⟩)) | (obtain ⟨q, A, c, e, h1, h2, h3⟩ := h; exact ⟨q, A, c, (put_getD_ne _ _ _ _ (by decide)).trans e, h1, h2.below hE h2.lt, (h3.below hE (Nat.le_refl _)).wide (Nat.le_refl _) hE.size⟩)
        · simp only at hE h ⊢; first | exact h | exact (put_getD_ne _ _ _ _ (by decide)).trans h | (obtain ⟨A, c, e, h⟩ := h; first | exact ⟨A, c, (put_getD_ne _ _ _ _ (by decide)).trans e, (h.below hE (Nat.le_refl _)).wide (Nat.le_refl _) hE.size⟩ | exact ⟨A, c, e, hE.row (by decide) h⟩) | (obtain ⟨q, cs, e, h1, h2, h3⟩ := h; first | exact ⟨q, cs, (put_getD_ne _ _ _ _ (by decide)).trans e, h1, h2, h3.below hE h3.lt⟩ | (obtain ⟨cs', g1, g2⟩ := hE.box h3; exact ⟨q, cs', e, h1, g1.trans h2, g2⟩)) | (obtain ⟨q, A, c, e, h1, h2, h3⟩ := h; exact ⟨q, A, c, (put_getD_ne _ _ _ _ (by decide)).trans e, h1, h2.below hE h2.lt, (h3.below hE (Nat.le_refl _)).wide (Nat.le_refl _) hE.size⟩)
        · exact absurd rfl hij
        · exact absurd rfl (hdep _ rfl ⟨7, .data⟩ (by simp) rfl)
      · rcases hi with rfl | rfl | rfl | rfl | rfl | rfl | rfl | rfl | rfl
        · simp only at hE h ⊢; first | exact h | exact (put_getD_ne _ _ _ _ (by decide)).trans h | (obtain ⟨A, c, e, h⟩ := h; first | exact ⟨A, c, (put_getD_ne _ _ _ _ (by decide)).trans e, (h.below hE (Nat.le_refl _)).wide (Nat.le_refl _) hE.size⟩ | exact ⟨A, c, e, hE.row (by decide) h⟩) | (obtain ⟨q, cs, e, h1, h2, h3⟩ := h; first | exact ⟨q, cs, (put_getD_ne _ _ _ _ (by decide)).trans e, h1, h2, h3.below hE h3.lt⟩ | (obtain ⟨cs', g1, g2⟩ := hE.box h3; exact ⟨q, cs', e, h1, g1.trans h2, g2⟩)) | (obtain ⟨q, A, c, e, h1, h2, h3⟩ := h; exact ⟨q, A, c, (put_getD_ne _ _ _ _ (by decide)).trans e, h1, h2.below hE h2.lt, (h3.below hE (Nat.le_refl _)).wide (Nat.le_refl _) hE.size⟩)
        · simp only at hE h ⊢; first | exact h | exact (put_getD_ne _ _ _ _ (by decide)).trans h | (obtain ⟨A, c, e, h⟩ := h; first | exact ⟨A, c, (put_getD_ne _ _ _ _ (by decide)).trans e, (h.below hE (Nat.le_refl _)).wide (Nat.le_refl _) hE.size⟩ | exact ⟨A, c, e, hE.row (by decide) h⟩) | (obtain ⟨q, cs, e, h1, h2, h3⟩ := h; first | exact ⟨q, cs, (put_getD_ne _ _ _ _ (by decide)).trans e, h1, h2, h3.below hE h3.lt⟩ | (obtain ⟨cs', g1, g2⟩ := hE.box h3; exact ⟨q, cs', e, h1, g1.trans h2, g2⟩)) | (obtain ⟨q, A, c, e, h1, h2, h3⟩ := h; exact ⟨q, A, c, (put_getD_ne _ _ _ _ (by decide)).trans e, h1, h2.below hE h2.lt, (h3.below hE (Nat.le_refl _)).wide (Nat.le_refl _) hE.size⟩)
        · simp only at hE h ⊢; first | exact h | exact (put_getD_ne _ _ _ _ (by decide)).trans h | (obtain ⟨A, c, e, h⟩ := h; first | exact ⟨A, c, (put_getD_ne _ _ _ _ (by decide)).trans e, (h.below hE (Nat.le_refl _)).wide (Nat.le_refl _) hE.size⟩ | exact ⟨A, c, e, hE.row (by decide) h⟩) | (obtain ⟨q, cs, e, h1, h2, h3⟩ := h; first | exact ⟨q, cs, (put_getD_ne _ _ _ _ (by decide)).trans e, h1, h2, h3.below hE h3.lt⟩ | (obtain ⟨cs', g1, g2⟩ := hE.box h3; exact ⟨q, cs', e, h1, g1.trans h2, g2⟩)) | (obtain ⟨q, A, c, e, h1, h2, h3⟩ := h; exact ⟨q, A, c, (put_getD_ne _ _ _ _ (by decide)).trans e, h1, h2.below hE h2.lt, (h3.below hE (Nat.le_refl _)).wide (Nat.le_refl _) hE.size⟩)
        · simp only at hE h ⊢; first | exact h | exact (put_getD_ne _ _ _ _ (by decide)).trans h | (obtain ⟨A, c, e, h⟩ := h; first | exact ⟨A, c, (put_getD_ne _ _ _ _ (by decide)).trans e, (h.below hE (Nat.le_refl _)).wide (Nat.le_refl _) hE.size⟩ | exact ⟨A, c, e, hE.row (by decide) h⟩) | (obtain ⟨q, cs, e, h1, h2, h3⟩ := h; first | exact ⟨q, cs, (put_getD_ne _ _ _ _ (by decide)).trans e, h1, h2, h3.below hE h3.lt⟩ | (obtain ⟨cs', g1, g2⟩ := hE.box h3; exact ⟨q, cs', e, h1, g1.trans h2, g2⟩)) | (obtain ⟨q, A, c, e, h1, h2, h3⟩ := h; exact ⟨q, A, c, (put_getD_ne _ _ _ _ (by decide)).trans e, h1, h2.below hE h2.lt, (h3.below hE (Nat.le_refl _)).wide (Nat.le_refl _) hE.size⟩)
        · simp only at hE h ⊢; first | exact h | exact (put_getD_ne _ _ _ _ (by decide)).trans h | (obtain ⟨A, c, e, h⟩ := h; first | exact ⟨A, c, (put_getD_ne _ _ _ _ (by decide)).trans e, (h.below hE (Nat.le_refl _)).wide (Nat.le_refl _) hE.size⟩ | exact ⟨A, c, e, hE.row (by decide) h⟩) | (obtain ⟨q, cs, e, h1, h2, h3⟩ := h; first | exact ⟨q, cs, (put_getD_ne _ _ _ _ (by decide)).trans e, h1, h2, h3.below hE h3.lt⟩ | (obtain ⟨cs', g1, g2⟩ := hE.box h3; exact ⟨q, cs', e, h1, g1.trans h2, g2⟩)) | (obtain ⟨q, A, c, e, h1, h2, h3⟩ := h; exact ⟨q, A, c, (put_getD_ne _ _ _ _ (by decide)).trans e, h1, h2.below hE h2.lt, (h3.below hE (Nat.le_refl _)).wide (Nat.le_refl _) hE.size⟩)
        · simp only at hE h ⊢; first | exact h | exact (put_getD_ne _ _ _ _ (by decide)).trans h | (obtain ⟨A, c, e, h⟩ := h; first | exact ⟨A, c, (put_getD_ne _ _ _ _ (by decide)).trans e, (h.below hE (Nat.le_refl _)).wide (Nat.le_refl _) hE.size⟩ | exact ⟨A, c, e, hE.row (by decide) h⟩) | (obtain ⟨q, cs, e, h1, h2, h3⟩ := h; first | exact ⟨q, cs, (put_getD_ne _ _ _ _ (by decide)).trans e, h1, h2, h3.below hE h3.lt⟩ | (obtain ⟨cs', g1, g2⟩ := hE.box h3; exact ⟨q, cs', e, h1, g1.trans h2, g2⟩)) | (obtain ⟨q, A, c, e, h1, h2, h3⟩ := h; exact ⟨q, A, c, (put_getD_ne _ _ _ _ (by decide)).trans e, h1, h2.below hE h2.lt, (h3.below hE (Nat.le_refl _)).wide (Nat.le_refl _) hE.size⟩)
        · simp only at hE h ⊢; first | exact h | exact (put_getD_ne _ _ _ _ (by decide)).trans h | (obtain ⟨A, c, e, h⟩ := h; first | exact ⟨A, c, (put_getD_ne _ _ _ _ (by decide)).trans e, (h.below hE (Nat.le_refl _)).wide (Nat.le_refl _) hE.size⟩ | exact ⟨A, c, e, hE.row (by decide) h⟩) | (obtain ⟨q, cs, e, h1, h2, h3⟩ := h; first | exact ⟨q, cs, (put_getD_ne _ _ _ _ (by decide)).trans e, h1, h2, h3.below hE h3.lt⟩ | (obtain ⟨cs', g1, g2⟩ := hE.box h3; exact ⟨q, cs', e, h1, g1.trans h2, g2⟩)) | (obtain ⟨q, A, c, e, h1, h2, h3⟩ := h; exact ⟨q, A, c, (put_getD_ne _ _ _ _ (by decide)).trans e, h1, h2.below hE h2.lt, (h3.below hE (Nat.le_refl _)).wide (Nat.le_refl _) hE.size⟩)
        · simp only at hE h ⊢; first | exact h | exact (put_getD_ne _ _ _ _ (by decide)).trans h | (obtain ⟨A, c, e, h⟩ := h; first | exact ⟨A, c, (put_getD_ne _ _ _ _ (by decide)).trans e, (h.below hE (Nat.le_refl _)).wide (Nat.le_refl _) hE.size⟩ | exact ⟨A, c, e, hE.row (by decide) h⟩) | (obtain ⟨q, cs, e, h1, h2, h3⟩ := h; first | exact ⟨q, cs, (put_getD_ne _ _ _ _ (by decide)).trans e, h1, h2, h3.below hE h3.lt⟩ | (obtain ⟨cs', g1, g2⟩ := hE.box h3; exact ⟨q, cs', e, h1, g1.trans h2, g2⟩)) | (obtain ⟨q, A, c, e, h1, h2, h3⟩ := h; exact ⟨q, A, c, (put_getD_ne _ _ _ _ (by decide)).trans e, h1, h2.below hE h2.lt, (h3.below hE (Nat.le_refl _)).wide (Nat.le_refl _) hE.size⟩)
        · exact absurd rfl hij
    · intro j o hj ho a' w' hC hsame hdep
      have hz : w5.heap.size ≤ w'.heap.size := hC.size
      simp only [List.mem_cons, List.not_mem_nil, or_false] at hj
      rcases hj with rfl | rfl | rfl | rfl | rfl | rfl | rfl | rfl | rfl
      all_goals obtain rfl := Option.some.inj ho
      · have hs : a'.tmps.getD 8 undef = .pointer (some ⟨w4.heap.size, 0, none⟩) := hsame 8 (by rfl)
        have zz : ∀ o, w'.cell? ⟨w4.heap.size, o, none⟩ = _ := fun o => (hC.cell (p := ⟨w4.heap.size, o, none⟩) (by show w4.heap.size < w5.heap.size; omega)).trans (yx5 o)
        refine wp_val (w2 := w') ((.agg #[.slice Ax l.length cx, .int .i64 s])) (fun K hK => ?_) ⟨_, rfl, hC, Below.refl _ _, fun b hb _ => hb 37 rfl⟩
        clear hsame hdep
        unfold Oper.wp
        simp [execOp, Act.eval, hs, go_sem, zz]
        exact hK
      · have hs : a'.tmps.getD 3 undef = .pointer (some ⟨w.heap.size + 1, 0, none⟩) := hsame 3 (by rfl)
        have zz : ∀ o, w'.cell? ⟨w.heap.size + 1, o, none⟩ = _ := fun o => (hC.cell (p := ⟨w.heap.size + 1, o, none⟩) (by show w.heap.size + 1 < w5.heap.size; omega)).trans (yv05 o)
        refine wp_val (w2 := w') (.agg #[.int .i64 v.h, .int .i64 v.t, .string v.last, .string v.vals, .string v.next, .string v.data]) (fun K hK => ?_) ⟨_, rfl, hC, Below.refl _ _, fun b hb _ => hb 38 rfl⟩
        clear hsame hdep
        unfold Oper.wp
        simp [execOp, Act.eval, hs, go_sem, zz]
        exact hK
      · have e1 : a'.tmps.getD 38 undef = .agg #[.int .i64 v.h, .int .i64 v.t, .string v.last, .string v.vals, .string v.next, .string v.data] := hdep ⟨1, .data⟩ (by simp) rfl
        refine wp_call (fun u w2 => u = .agg #[.int .i64 v.h, .int .i64 v.t, .string v.last, .string v.vals, .string v.next, .string v.data] ∧ Below w'.heap.size w' w2) (fun K hK => ?_) ?_
        · clear hsame hdep
          unfold Oper.wp
          simp [execOp, Act.eval, e1, go_sem]
          refine (toHeader_any v.h v.t v.last v.vals v.next v.data _).mono ?_
          rintro e w3 ⟨rfl, hb3⟩
          exact hK _ _ ⟨rfl, hb3⟩
        · rintro u w3 ⟨rfl, hb3⟩
          exact ⟨_, rfl, hC.trans (hb3.mono hz), hb3, fun b hb _ => hb 39 rfl⟩
      · have e1 : a'.tmps.getD 37 undef = (.agg #[.slice Ax l.length cx, .int .i64 s]) := hdep ⟨0, .data⟩ (by simp) rfl
        have hr : RdL headC 6 w' w'.heap.size Ax l.length cx l := ((Ox5.out.rd headC_len).below hC (by omega)).more (by omega)
        have e2 : a'.tmps.getD 39 undef = .agg #[.int .i64 v.h, .int .i64 v.t, .string v.last, .string v.vals, .string v.next, .string v.data] := hdep ⟨2, .data⟩ (by simp) rfl
        refine wp_call (fun u w2 => ∃ A c, u = .tuple #[(.agg #[.slice A lr.length c, .int .i64 s']), .bool kv] ∧ OwnL headC 6 34 w2 w'.heap.size w2.heap.size A lr.length c lr ∧ Below w'.heap.size w' w2) (fun K hK => ?_) ?_
        · clear hsame hdep
          unfold Oper.wp
          simp [execOp, Act.eval, e1, e2, go_sem]
          refine (HIM.out _ Ax cx hr ((HT.out.below B5.out HT.out.pos).below hC (Nat.lt_of_lt_of_le HT.out.pos B5.out.size))).mono ?_
          rintro e w3 ⟨A7, c7, rfl, ho3, hb3⟩
          exact hK _ _ ⟨A7, c7, rfl, ho3, hb3⟩
        · rintro u w3 ⟨A7, c7, rfl, ho3, hb3⟩
          exact ⟨_, rfl, hC.trans (hb3.mono hz), hb3, fun b hb _ => ⟨A7, c7, hb 40 rfl, ho3.wide hz (Nat.le_refl _)⟩⟩
      · obtain ⟨A7, c7, e1, ho⟩ := hdep ⟨3, .data⟩ (by simp) rfl
        refine wp_val (w2 := w') (.tuple #[(.agg #[.slice A7 lr.length c7, .int .i64 s']), .bool kv]) (fun K hK => ?_) ⟨_, rfl, hC, Below.refl _ _, fun b hb _ => ⟨A7, c7, hb 36 rfl, ho⟩⟩
        clear hsame hdep
        unfold Oper.wp
        simp [execOp, Act.eval, e1, go_sem]
        exact hK
      · obtain ⟨A7, c7, e1, ho⟩ := hdep ⟨4, .data⟩ (by simp) rfl
        refine wp_val (w2 := w') ((.agg #[.slice A7 lr.length c7, .int .i64 s'])) (fun K hK => ?_) ⟨_, rfl, hC, Below.refl _ _, fun b hb _ => ⟨A7, c7, hb 41 rfl, ho⟩⟩
        clear hsame hdep
        unfold Oper.wp
        simp [execOp, Act.eval, e1, go_sem]
        exact hK
      · obtain ⟨A7, c7, e1, ho⟩ := hdep ⟨4, .data⟩ (by simp) rfl
        refine wp_val (w2 := w') (.bool kv) (fun K hK => ?_) ⟨_, rfl, hC, Below.refl _ _, fun b hb _ => hb 42 rfl⟩
        clear hsame hdep
        unfold Oper.wp
        simp [execOp, Act.eval, e1, go_sem]
        exact hK
      · refine wp_val (w2 := w'.alloc (.cells #[.slice none 0 0, .int .i64 0] 29)) (.pointer (some ⟨w'.heap.size, 0, none⟩)) (fun K hK => ?_) ⟨_, rfl, hC.alloc hz _, (Below.refl _ _).alloc (Nat.le_refl _) _, fun b hb _ => ⟨w'.heap.size, _, hb 9 rfl, hz, rfl, heap_alloc_new w' _⟩⟩
        clear hsame hdep
        unfold Oper.wp
        simp [execOp, Act.eval, go_sem]
        exact hK
      · obtain ⟨q0, cs0, e1, hq0, hsz, hblk⟩ := hdep ⟨7, .data⟩ (by simp) rfl
        obtain ⟨A7, c7, e2, ho⟩ := hdep ⟨5, .data⟩ (by simp) rfl
        obtain ⟨lc⟩ := cs0
        obtain ⟨k0, k1, rfl⟩ := list2 (l := lc) (by simpa using hsz)
        have f0 : w'.cell? ⟨q0, 0, none⟩ = some k0 := by rw [hblk.cell]; rfl
        have f1 : w'.cell? ⟨q0, 1, none⟩ = some k1 := by rw [hblk.cell]; rfl
        have ff := hblk.frozen
        obtain ⟨w9, hw9⟩ : ∃ z, z = ((w'.setCell ⟨q0, 0, none⟩ (.slice A7 lr.length c7)).setCell ⟨q0, 1, none⟩ (.int .i64 s')) := ⟨_, rfl⟩
        have hchg : Chg q0 (q0 + 1) w' w9 := by rw [hw9]; (repeat (first | with_reducible refine Chg.setCell ?_ (by first | exact Nat.le_refl _ | (simp; done) | (simp; omega)) (by first | (simp; done) | (simp; omega)) _ | with_reducible refine Chg.alloc ?_ _ | with_reducible refine Chg.drew ?_)); (with_reducible exact Chg.refl _ _ _)
        have hblk2 : Blk w9 q0 29 #[.slice A7 lr.length c7, .int .i64 s'] := by
          rw [hw9]
          have hb := ((hblk.set_ 0 (.slice A7 lr.length c7)).set_ 1 (.int .i64 s'))
          simp only [List.setIfInBounds_toArray, List.set_cons_zero, List.set_cons_succ] at hb
          exact hb
        have hturn := BoxTurn.of_blk hblk hblk2 rfl hchg
        have hown := hturn.row (by decide) ho
        have hcls := hC.trans (hchg.below hq0 hz)
        refine wp_val (w2 := w9) undef (fun K hK => ?_) ⟨_, rfl, hcls, hturn, fun b _ hb => ⟨q0, A7, c7, (hb 9 (by intro d h; cases h)).trans e1, hq0, hblk2, hown⟩⟩
        rw [hw9] at hK
        clear hsame hdep hchg hblk2 hturn hown hcls hw9
        unfold Oper.wp
        simp [execOp, Act.eval, e1, e2, go_sem, f0, f1, ff]
        exact hK
    · intro a' w' hC ha hP
      obtain ⟨q0, A7, c7, e1, hq0, hblk, ho⟩ := hP 8 (by simp)
      have e2 : a'.tmps.getD 42 undef = .bool kv := hP 6 (by simp)
      clear hP
      simp only [coreOps, List.filterMap_cons, List.filterMap_nil, List.getElem?_cons_zero, List.getElem?_cons_succ, fillA, slotOf, Act.put, e1, e2] at ha
      generalize a'.tmps.getD 37 undef = u37 at ha
      generalize a'.tmps.getD 38 undef = u38 at ha
      generalize a'.tmps.getD 39 undef = u39 at ha
      generalize a'.tmps.getD 40 undef = u40 at ha
      generalize a'.tmps.getD 36 undef = u36 at ha
      generalize a'.tmps.getD 41 undef = u41 at ha
      subst ha
      show wpAny _ _ _ _ 1 _ _ _
      refine wpAny_ready (rs := [9]) (by kernel_rfl) (by simp) ?_
      refine AllReady.cons rfl (fun K hK => ?_) AllReady.nil
      go_simp
      refine hK _ _ ?_
      clear hK K
      refine wpAny_done (by kernel_rfl) ?_ _
      go_wp2_with fail
      go_meet
      obtain ⟨ga, gb, ho, g1, g2, g3, g4⟩ := ho.apart hblk (by decide) hC.size
      exact ⟨q0, A7, c7, ga, gb, rfl, rfl, hq0, hblk, ho, g1, g2, g3, g4, hC⟩
  case rest =>
  obtain ⟨q5, Ag, cg, ga5, gb5, rfl, rfl, hq5, hblk, ho, hg15, hg25, hg35, hg45, hb⟩ := hcut
  have hs6 := hb.size
  have C6 := Lib.hid ((Chg.refl w.heap.size w.heap.size w5).below_trans hb)
  have ya6 : ∀ o, wc.cell? ⟨w.heap.size, o, none⟩ = _ := fun o => (C6.out.cell (by omega) (by omega)).trans (ya5 o)
  have yv06 : ∀ o, wc.cell? ⟨w.heap.size + 1, o, none⟩ = _ := fun o => (C6.out.cell (by omega) (by omega)).trans (yv05 o)
  have yw6 : ∀ o, wc.cell? ⟨q2, o, none⟩ = _ := fun o => (C6.out.cell (by omega) (by omega)).trans (yw5 o)
  have yx6 : ∀ o, wc.cell? ⟨w4.heap.size, o, none⟩ = _ := fun o => (C6.out.cell (by omega) (by omega)).trans (yx5 o)
  clear ya5 yv05 yw5 yx5
  have pa6 : w.heap.size < wc.heap.size := by omega
  have pv06 : w.heap.size + 1 < wc.heap.size := by omega
  have pw6 : q2 < wc.heap.size := by omega
  have px6 : w4.heap.size < wc.heap.size := by omega
  have B6 : Hid (Below w.heap.size w wc) := B5.out.trans (C6.out.below (by omega) (by omega))
  have Op6 := Lib.hid (Op5.out.chg C6.out (by omega))
  have Ox6 := Lib.hid (Ox5.out.chg C6.out (by omega))
  clear Op5 Ox5
  clear hb
  have Og6 := Lib.hid ho
  clear ho
  obtain ⟨w6, hwc⟩ : ∃ q, q = wc := ⟨_, rfl⟩
  subst hwc
  have yg6 : ∀ o, w6.cell? ⟨q5, o, none⟩ = _ := fun o => hblk.cell o
  have pg6 : q5 < w6.heap.size := hblk.lt
  clear hblk
  go_wp2_with fail
  refine (eqStore_same s' Ag _ cg Ap cp lr _ (?_) (?_)).mono ?_
  · refine RdL.more (B := gb5) ?_ (by first | exact Nat.le_refl _ | (simp; done) | omega | (simp; omega))
    exact Og6.out.rd headC_len
  · refine RdL.more (B := gb2) ?_ (by first | exact Nat.le_refl _ | (simp; done) | omega | (simp; omega))
    exact Op6.out.rd headC_len
  rintro e w7 ⟨rfl, hb⟩
  have hs7 := hb.size
  have C7 := Lib.hid ((Chg.refl w.heap.size w.heap.size w6).below_trans hb)
  have ya7 : ∀ o, w7.cell? ⟨w.heap.size, o, none⟩ = _ := fun o => (C7.out.cell (by omega) (by omega)).trans (ya6 o)
  have yv07 : ∀ o, w7.cell? ⟨w.heap.size + 1, o, none⟩ = _ := fun o => (C7.out.cell (by omega) (by omega)).trans (yv06 o)
  have yw7 : ∀ o, w7.cell? ⟨q2, o, none⟩ = _ := fun o => (C7.out.cell (by omega) (by omega)).trans (yw6 o)
  have yx7 : ∀ o, w7.cell? ⟨w4.heap.size, o, none⟩ = _ := fun o => (C7.out.cell (by omega) (by omega)).trans (yx6 o)
  have yg7 : ∀ o, w7.cell? ⟨q5, o, none⟩ = _ := fun o => (C7.out.cell (by omega) (by omega)).trans (yg6 o)
  clear ya6 yv06 yw6 yx6 yg6
  have pa7 : w.heap.size < w7.heap.size := by omega
  have pv07 : w.heap.size + 1 < w7.heap.size := by omega
  have pw7 : q2 < w7.heap.size := by omega
  have px7 : w4.heap.size < w7.heap.size := by omega
  have pg7 : q5 < w7.heap.size := by omega
  have B7 : Hid (Below w.heap.size w w7) := B6.out.trans (C7.out.below (by omega) (by omega))
  have Op7 := Lib.hid (Op6.out.chg C7.out (by omega))
  have Ox7 := Lib.hid (Ox6.out.chg C7.out (by omega))
  have Og7 := Lib.hid (Og6.out.chg C7.out (by omega))
  clear Op6 Ox6 Og6
  clear hb
  go_upto_region 13 with fail
  go_cut [56] (fun sx wx => sx = .bool false ∧ Below w7.heap.size w7 wx)
  case first =>
    go_region_with (first
      | (go_at_call 12; (refine (toStore_any s A l.length c l _ (by exact (((HL.out.below B7.out (Nat.le_refl _)).more B7.out.size))) (by omega)).mono ?_); rintro e wr ⟨A6, n6, c6, rfl, ho, hb6⟩; have hb6 : Below w7.heap.size w7 wr := ⟨hb6.os, hb6.tape, hb6.output, hb6.size, hb6.block⟩; obtain rfl : l.length = n6 := ho.1; have R6 := Lib.hid (ho.rd headC_len); have R7 := Lib.hid ((Ox7.out.rd headC_len).below hb6 (by show w4.heap.size ≤ w7.heap.size; omega)); clear ho; have z6 : ∀ o, wr.cell? ⟨w4.heap.size, o, none⟩ = _ := (fun o => (hb6.cell (p := ⟨w4.heap.size, o, none⟩) (by show w4.heap.size < w7.heap.size; omega)).trans (yx7 o)); have G6 := Lib.hid hb6; clear hb6)
      | (go_at_call 14; (refine (eqStore_same s Ax _ cx A6 c6 l _ (by exact (R7.out.more (by have h6 : w7.heap.size ≤ wr.heap.size := G6.out.size; omega))) (by exact R6.out)).mono ?_); rintro e ws ⟨rfl, hb7⟩; have G7 := Lib.hid hb7; clear hb7))
    all_goals
      go_wp2_with fail
      go_meet
      exact ⟨rfl, G6.out.trans (G7.out.mono G6.out.size)⟩
  case rest =>
  obtain ⟨rfl, hb⟩ := hcut
  have hs8 := hb.size
  have C8 := Lib.hid ((Chg.refl w.heap.size w.heap.size w7).below_trans hb)
  have ya8 : ∀ o, wc.cell? ⟨w.heap.size, o, none⟩ = _ := fun o => (C8.out.cell (by omega) (by omega)).trans (ya7 o)
  have yv08 : ∀ o, wc.cell? ⟨w.heap.size + 1, o, none⟩ = _ := fun o => (C8.out.cell (by omega) (by omega)).trans (yv07 o)
  have yw8 : ∀ o, wc.cell? ⟨q2, o, none⟩ = _ := fun o => (C8.out.cell (by omega) (by omega)).trans (yw7 o)
  have yx8 : ∀ o, wc.cell? ⟨w4.heap.size, o, none⟩ = _ := fun o => (C8.out.cell (by omega) (by omega)).trans (yx7 o)
  have yg8 : ∀ o, wc.cell? ⟨q5, o, none⟩ = _ := fun o => (C8.out.cell (by omega) (by omega)).trans (yg7 o)
  clear ya7 yv07 yw7 yx7 yg7
  have pa8 : w.heap.size < wc.heap.size := by omega
  have pv08 : w.heap.size + 1 < wc.heap.size := by omega
  have pw8 : q2 < wc.heap.size := by omega
  have px8 : w4.heap.size < wc.heap.size := by omega
  have pg8 : q5 < wc.heap.size := by omega
  have B8 : Hid (Below w.heap.size w wc) := B7.out.trans (C8.out.below (by omega) (by omega))
  have Op8 := Lib.hid (Op7.out.chg C8.out (by omega))
  have Ox8 := Lib.hid (Ox7.out.chg C8.out (by omega))
  have Og8 := Lib.hid (Og7.out.chg C8.out (by omega))
  clear Op7 Ox7 Og7
  clear hb
  obtain ⟨w8, hwc⟩ : ∃ q, q = wc := ⟨_, rfl⟩
  subst hwc
  go_wp2_with fail
  have hq1 : (0 : Int) ≤ ((1 + l.length * 6 : Nat) : Int) := by omega
  refine (markStore_any s Ax _ cx l w3.heap.size w4.heap.size 1 _ (?_) (by first | exact Nat.le_refl _ | (simp; done) | omega | (simp; omega)) (by decide) (by omega) (by decide)).mono ?_
  · exact Ox8.out
  rintro e w9 ⟨rfl, ho, hg⟩
  have hs9 := hg.size
  have C9 := Lib.hid ((Chg.refl w3.heap.size w4.heap.size w8).trans hg)
  have ya9 : ∀ o, w9.cell? ⟨w.heap.size, o, none⟩ = _ := fun o => (C9.out.cell (by omega) (by omega)).trans (ya8 o)
  have yv09 : ∀ o, w9.cell? ⟨w.heap.size + 1, o, none⟩ = _ := fun o => (C9.out.cell (by omega) (by omega)).trans (yv08 o)
  have yw9 : ∀ o, w9.cell? ⟨q2, o, none⟩ = _ := fun o => (C9.out.cell (by omega) (by omega)).trans (yw8 o)
  have yx9 : ∀ o, w9.cell? ⟨w4.heap.size, o, none⟩ = _ := fun o => (C9.out.cell (by omega) (by omega)).trans (yx8 o)
  have yg9 : ∀ o, w9.cell? ⟨q5, o, none⟩ = _ := fun o => (C9.out.cell (by omega) (by omega)).trans (yg8 o)
  clear ya8 yv08 yw8 yx8 yg8
  have pa9 : w.heap.size < w9.heap.size := by omega
  have pv09 : w.heap.size + 1 < w9.heap.size := by omega
  have pw9 : q2 < w9.heap.size := by omega
  have px9 : w4.heap.size < w9.heap.size := by omega
  have pg9 : q5 < w9.heap.size := by omega
  have B9 : Hid (Below w.heap.size w w9) := B8.out.trans (C9.out.below (by omega) (by omega))
  have Op9 := Lib.hid (Op8.out.chg C9.out (by omega))
  have Og9 := Lib.hid (Og8.out.chg C9.out (by omega))
  clear Op8 Og8
  clear hg
  clear Ox8
  have Ox9 := Lib.hid ho
  clear ho
  clear Ox9
  go_wp2_with fail
  refine (eqStore_same s' Ag _ cg Ap cp lr _ (?_) (?_)).mono ?_
  · refine RdL.more (B := gb5) ?_ (by first | exact Nat.le_refl _ | (simp; done) | omega | (simp; omega))
    exact Og9.out.rd headC_len
  · refine RdL.more (B := gb2) ?_ (by first | exact Nat.le_refl _ | (simp; done) | omega | (simp; omega))
    exact Op9.out.rd headC_len
  rintro e w10 ⟨rfl, hb⟩
  have hs10 := hb.size
  have C10 := Lib.hid ((Chg.refl w.heap.size w.heap.size w9).below_trans hb)
  have ya10 : ∀ o, w10.cell? ⟨w.heap.size, o, none⟩ = _ := fun o => (C10.out.cell (by omega) (by omega)).trans (ya9 o)
  have yv010 : ∀ o, w10.cell? ⟨w.heap.size + 1, o, none⟩ = _ := fun o => (C10.out.cell (by omega) (by omega)).trans (yv09 o)
  have yw10 : ∀ o, w10.cell? ⟨q2, o, none⟩ = _ := fun o => (C10.out.cell (by omega) (by omega)).trans (yw9 o)
  have yx10 : ∀ o, w10.cell? ⟨w4.heap.size, o, none⟩ = _ := fun o => (C10.out.cell (by omega) (by omega)).trans (yx9 o)
  have yg10 : ∀ o, w10.cell? ⟨q5, o, none⟩ = _ := fun o => (C10.out.cell (by omega) (by omega)).trans (yg9 o)
  clear ya9 yv09 yw9 yx9 yg9
  have pa10 : w.heap.size < w10.heap.size := by omega
  have pv010 : w.heap.size + 1 < w10.heap.size := by omega
  have pw10 : q2 < w10.heap.size := by omega
  have px10 : w4.heap.size < w10.heap.size := by omega
  have pg10 : q5 < w10.heap.size := by omega
  have B10 : Hid (Below w.heap.size w w10) := B9.out.trans (C10.out.below (by omega) (by omega))
  have Op10 := Lib.hid (Op9.out.chg C10.out (by omega))
  have Og10 := Lib.hid (Og9.out.chg C10.out (by omega))
  clear Op9 Og9
  clear hb
  go_wp2_with fail
  have hq2 : (0 : Int) ≤ ((1 + lr.length * 6 : Nat) : Int) := by omega
  refine (markStore_any s' Ag _ cg lr ga5 gb5 1 _ (?_) (by first | exact Nat.le_refl _ | (simp; done) | omega | (simp; omega)) (by decide) (by omega) (by decide)).mono ?_
  · exact Og10.out
  rintro e w11 ⟨rfl, ho, hg⟩
  have hs11 := hg.size
  have C11 := Lib.hid ((Chg.refl ga5 gb5 w10).trans hg)
  have ya11 : ∀ o, w11.cell? ⟨w.heap.size, o, none⟩ = _ := fun o => (C11.out.cell (by omega) (by omega)).trans (ya10 o)
  have yv011 : ∀ o, w11.cell? ⟨w.heap.size + 1, o, none⟩ = _ := fun o => (C11.out.cell (by omega) (by omega)).trans (yv010 o)
  have yw11 : ∀ o, w11.cell? ⟨q2, o, none⟩ = _ := fun o => (C11.out.cell (by omega) (by omega)).trans (yw10 o)
  have yx11 : ∀ o, w11.cell? ⟨w4.heap.size, o, none⟩ = _ := fun o => (C11.out.cell (by omega) (by omega)).trans (yx10 o)
  have yg11 : ∀ o, w11.cell? ⟨q5, o, none⟩ = _ := fun o => (C11.out.cell (by omega) (by omega)).trans (yg10 o)
  clear ya10 yv010 yw10 yx10 yg10
  have pa11 : w.heap.size < w11.heap.size := by omega
  have pv011 : w.heap.size + 1 < w11.heap.size := by omega
  have pw11 : q2 < w11.heap.size := by omega
  have px11 : w4.heap.size < w11.heap.size := by omega
  have pg11 : q5 < w11.heap.size := by omega
  have B11 : Hid (Below w.heap.size w w11) := B10.out.trans (C11.out.below (by omega) (by omega))
  have Op11 := Lib.hid (Op10.out.chg C11.out (by omega))
  clear Op10
  clear hg
  clear Og10
  have Og11 := Lib.hid ho
  clear ho
  go_wp2_with fail
  refine (heldStore_any s' Ag _ cg 1 _ (?_) (by decide) (by omega) (by decide)).mono ?_
  · refine RdL.more (B := gb5) ?_ (by first | exact Nat.le_refl _ | (simp; done) | omega | (simp; omega))
    exact Og11.out.rd headC_len
  rintro e w12 ⟨rfl, hb⟩
  have hs12 := hb.size
  have C12 := Lib.hid ((Chg.refl w.heap.size w.heap.size w11).below_trans hb)
  have ya12 : ∀ o, w12.cell? ⟨w.heap.size, o, none⟩ = _ := fun o => (C12.out.cell (by omega) (by omega)).trans (ya11 o)
  have yv012 : ∀ o, w12.cell? ⟨w.heap.size + 1, o, none⟩ = _ := fun o => (C12.out.cell (by omega) (by omega)).trans (yv011 o)
  have yw12 : ∀ o, w12.cell? ⟨q2, o, none⟩ = _ := fun o => (C12.out.cell (by omega) (by omega)).trans (yw11 o)
  have yx12 : ∀ o, w12.cell? ⟨w4.heap.size, o, none⟩ = _ := fun o => (C12.out.cell (by omega) (by omega)).trans (yx11 o)
  have yg12 : ∀ o, w12.cell? ⟨q5, o, none⟩ = _ := fun o => (C12.out.cell (by omega) (by omega)).trans (yg11 o)
  clear ya11 yv011 yw11 yx11 yg11
  have pa12 : w.heap.size < w12.heap.size := by omega
  have pv012 : w.heap.size + 1 < w12.heap.size := by omega
  have pw12 : q2 < w12.heap.size := by omega
  have px12 : w4.heap.size < w12.heap.size := by omega
  have pg12 : q5 < w12.heap.size := by omega
  have B12 : Hid (Below w.heap.size w w12) := B11.out.trans (C12.out.below (by omega) (by omega))
  have Op12 := Lib.hid (Op11.out.chg C12.out (by omega))
  have Og12 := Lib.hid (Og11.out.chg C12.out (by omega))
  clear Op11 Og11
  clear hb
  go_wp2_with fail
  go_upto_region 27 with fail
  go_cut [14, 15] (fun sp sk wx => ∃ q A c ga gb, sp = .pointer (some ⟨q, 0, none⟩) ∧ sk = (.bool kv) ∧ w12.heap.size ≤ q ∧ Blk wx q 29 #[.slice A lr.length c, .int .i64 s'] ∧ OwnL headC 6 34 wx ga gb A lr.length c lr ∧ w12.heap.size ≤ ga ∧ ga ≤ gb ∧ gb ≤ wx.heap.size ∧ (q < ga ∨ gb ≤ q) ∧ Below w12.heap.size w12 wx)
  case first =>
    refine wp_region_core [0, 1, 2, 3, 4, 5, 6, 7, 8, 9] (Below w12.heap.size w12) (fun j wa wb => match j with | 9 => BoxTurn 29 wa wb | _ => Below wa.heap.size wa wb) (fun i b w => match i with
      | 0 => b.tmps.getD 85 undef = (.agg #[.slice A l.length c, .int .i64 s])
      | 1 => ∃ A c, b.tmps.getD 86 undef = (.agg #[.slice A l.length c, .int .i64 s]) ∧ OwnL headC 6 34 w w12.heap.size w.heap.size A l.length c l
      | 2 => b.tmps.getD 87 undef = .agg #[.int .i64 v.h, .int .i64 v.t, .string v.last, .string v.vals, .string v.next, .string v.data]
      | 3 => b.tmps.getD 88 undef = .agg #[.int .i64 v.h, .int .i64 v.t, .string v.last, .string v.vals, .string v.next, .string v.data]
      | 4 => ∃ A c, b.tmps.getD 89 undef = .tuple #[(.agg #[.slice A lr.length c, .int .i64 s']), .bool kv] ∧ OwnL headC 6 34 w w12.heap.size w.heap.size A lr.length c lr
      | 5 => ∃ A c, b.tmps.getD 84 undef = .tuple #[(.agg #[.slice A lr.length c, .int .i64 s']), .bool kv] ∧ OwnL headC 6 34 w w12.heap.size w.heap.size A lr.length c lr
      | 6 => ∃ A c, b.tmps.getD 90 undef = (.agg #[.slice A lr.length c, .int .i64 s']) ∧ OwnL headC 6 34 w w12.heap.size w.heap.size A lr.length c lr
      | 7 => b.tmps.getD 91 undef = .bool kv
      | 8 => ∃ q cs, b.tmps.getD 14 undef = .pointer (some ⟨q, 0, none⟩) ∧ w12.heap.size ≤ q ∧ cs.size = 2 ∧ Blk w q 29 cs
      | 9 => ∃ q A c, b.tmps.getD 14 undef = .pointer (some ⟨q, 0, none⟩) ∧ w12.heap.size ≤ q ∧ Blk w q 29 #[.slice A lr.length c, .int .i64 s'] ∧ OwnL headC 6 34 w w12.heap.size w.heap.size A lr.length c lr
      | _ => True) (by kernel_rfl) (by kernel_rfl) ((Below.refl _ _).drew) ?_ ?_ ?_
    · intro b wa wb i j oj v hi hj hij hoj hdep hE h
      simp only [List.mem_cons, List.not_mem_nil, or_false] at hi hj
      rcases hj with rfl | rfl | rfl | rfl | rfl | rfl | rfl | rfl | rfl | rfl
      all_goals obtain rfl := Option.some.inj hoj
      · rcases hi with rfl | rfl | rfl | rfl | rfl | rfl | rfl | rfl | rfl | rfl
        · exact absurd rfl hij
        · simp only at hE h ⊢; first | exact h | exact (put_getD_ne _ _ _ _ (by decide)).trans h | (obtain ⟨A, c, e, h⟩ := h; first | exact ⟨A, c, (put_getD_ne _ _ _ _ (by decide)).trans e, (h.below hE (Nat.le_refl _)).wide (Nat.le_refl _) hE.size⟩ | exact ⟨A, c, e, hE.row (by decide) h⟩) | (obtain ⟨q, cs, e, h1, h2, h3⟩ := h; first | exact ⟨q, cs, (put_getD_ne _ _ _ _ (by decide)).trans e, h1, h2, h3.below hE h3.lt⟩ | (obtain ⟨cs', g1, g2⟩ := hE.box h3; exact ⟨q, cs', e, h1, g1.trans h2, g2⟩)) | (obtain ⟨q, A, c, e, h1, h2, h3⟩ := h; exact ⟨q, A, c, (put_getD_ne _ _ _ _ (by decide)).trans e, h1, h2.below hE h2.lt, (h3.below hE (Nat.le_refl _)).wide (Nat.le_refl _) hE.size⟩)
        · simp only at hE h ⊢; first | exact h | exact (put_getD_ne _ _ _ _ (by decide)).trans h | (obtain ⟨A, c, e, h⟩ := h; first | exact ⟨A, c, (put_getD_ne _ _ _ _ (by decide)).trans e, (h.below hE (Nat.le_refl _)).wide (Nat.le_refl _) hE.size⟩ | exact ⟨A, c, e, hE.row (by decide) h⟩) | (obtain ⟨q, cs, e, h1, h2, h3⟩ := h; first | exact ⟨q, cs, (put_getD_ne _ _ _ _ (by decide)).trans e, h1, h2, h3.below hE h3.lt⟩ | (obtain ⟨cs', g1, g2⟩ := hE.box h3; exact ⟨q, cs', e, h1, g1.trans h2, g2⟩)) | (obtain ⟨q, A, c, e, h1, h2, h3⟩ := h; exact ⟨q, A, c, (put_getD_ne _ _ _ _ (by decide)).trans e, h1, h2.below hE h2.lt, (h3.below hE (Nat.le_refl _)).wide (Nat.le_refl _) hE.size⟩)
        · simp only at hE h ⊢; first | exact h | exact (put_getD_ne _ _ _ _ (by decide)).trans h | (obtain ⟨A, c, e, h⟩ := h; first | exact ⟨A, c, (put_getD_ne _ _ _ _ (by decide)).trans e, (h.below hE (Nat.le_refl _)).wide (Nat.le_refl _) hE.size⟩ | exact ⟨A, c, e, hE.row (by decide) h⟩) | (obtain ⟨q, cs, e, h1, h2, h3⟩ := h; first | exact ⟨q, cs, (put_getD_ne _ _ _ _ (by decide)).trans e, h1, h2, h3.below hE h3.lt⟩ | (obtain ⟨cs', g1, g2⟩ := hE.box h3; exact ⟨q, cs', e, h1, g1.trans h2, g2⟩)) | (obtain ⟨q, A, c, e, h1, h2, h3⟩ := h; exact ⟨q, A, c, (put_getD_ne _ _ _ _ (by decide)).trans e, h1, h2.below hE h2.lt, (h3.below hE (Nat.le_refl _)).wide (Nat.le_refl _) hE.size⟩)
        · simp only at hE h ⊢; first | exact h | exact (put_getD_ne _ _ _ _ (by decide)).trans h | (obtain ⟨A, c, e, h⟩ := h; first | exact ⟨A, c, (put_getD_ne _ _ _ _ (by decide)).trans e, (h.below hE (Nat.le_refl _)).wide (Nat.le_refl _) hE.size⟩ | exact ⟨A, c, e, hE.row (by decide) h⟩) | (obtain ⟨q, cs, e, h1, h2, h3⟩ := h; first | exact ⟨q, cs, (put_getD_ne _ _ _ _ (by decide)).trans e, h1, h2, h3.below hE h3.lt⟩ | (obtain ⟨cs', g1, g2⟩ := hE.box h3; exact ⟨q, cs', e, h1, g1.trans h2, g2⟩)) | (obtain ⟨q, A, c, e, h1, h2, h3⟩ := h; exact ⟨q, A, c, (put_getD_ne _ _ _ _ (by decide)).trans e, h1, h2.below hE h2.lt, (h3.below hE (Nat.le_refl _)).wide (Nat.le_refl _) hE.size⟩)
        · simp only at hE h ⊢; first | exact h | exact (put_getD_ne _ _ _ _ (by decide)).trans h | (obtain ⟨A, c, e, h⟩ := h; first | exact ⟨A, c, (put_getD_ne _ _ _ _ (by decide)).trans e, (h.below hE (Nat.le_refl _)).wide (Nat.le_refl _) hE.size⟩ | exact ⟨A, c, e, hE.row (by decide) h⟩) | (obtain ⟨q, cs, e, h1, h2, h3⟩ := h; first | exact ⟨q, cs, (put_getD_ne _ _ _ _ (by decide)).trans e, h1, h2, h3.below hE h3.lt⟩ | (obtain ⟨cs', g1, g2⟩ := hE.box h3; exact ⟨q, cs', e, h1, g1.trans h2, g2⟩)) | (obtain ⟨q, A, c, e, h1, h2, h3⟩ := h; exact ⟨q, A, c, (put_getD_ne _ _ _ _ (by decide)).trans e, h1, h2.below hE h2.lt, (h3.below hE (Nat.le_refl _)).wide (Nat.le_refl _) hE.size⟩)
        · simp only at hE h ⊢; first | exact h | exact (put_getD_ne _ _ _ _ (by decide)).trans h | (obtain ⟨A, c, e, h⟩ := h; first | exact ⟨A, c, (put_getD_ne _ _ _ _ (by decide)).trans e, (h.below hE (Nat.le_refl _)).wide (Nat.le_refl _) hE.size⟩ | exact ⟨A, c, e, hE.row (by decide) h⟩) | (obtain ⟨q, cs, e, h1, h2, h3⟩ := h; first | exact ⟨q, cs, (put_getD_ne _ _ _ _ (by decide)).trans e, h1, h2, h3.below hE h3.lt⟩ | (obtain ⟨cs', g1, g2⟩ := hE.box h3; exact ⟨q, cs', e, h1, g1.trans h2, g2⟩)) | (obtain ⟨q, A, c, e, h1, h2, h3⟩ := h; exact ⟨q, A, c, (put_getD_ne _ _ _ _ (by decide)).trans e, h1, h2.below hE h2.lt, (h3.below hE (Nat.le_refl _)).wide (Nat.le_refl _) hE.size⟩)
        · simp only at hE h ⊢; first | exact h | exact (put_getD_ne _ _ _ _ (by decide)).trans h | (obtain ⟨A, c, e, h⟩ := h; first | exact ⟨A, c, (put_getD_ne _ _ _ _ (by decide)).trans e, (h.below hE (Nat.le_refl _)).wide (Nat.le_refl _) hE.size⟩ | exact ⟨A, c, e, hE.row (by decide) h⟩) | (obtain ⟨q, cs, e, h1, h2, h3⟩ := h; first | exact ⟨q, cs, (put_getD_ne _ _ _ _ (by decide)).trans e, h1, h2, h3.below hE h3.lt⟩ | (obtain ⟨cs', g1, g2⟩ := hE.box h3; exact ⟨q, cs', e, h1, g1.trans h2, g2⟩)) | (obtain ⟨q, A, c, e, h1, h2, h3⟩ := h; exact ⟨q, A, c, (put_getD_ne _ _ _ _ (by decide)).trans e, h1, h2.below hE h2.lt, (h3.below hE (Nat.le_refl _)).wide (Nat.le_refl _) hE.size⟩)
        · simp only at hE h ⊢; first | exact h | exact (put_getD_ne _ _ _ _ (by decide)).trans h | (obtain ⟨A, c, e, h⟩ := h; first | exact ⟨A, c, (put_getD_ne _ _ _ _ (by decide)).trans e, (h.below hE (Nat.le_refl _)).wide (Nat.le_refl _) hE.size⟩ | exact ⟨A, c, e, hE.row (by decide) h⟩) | (obtain ⟨q, cs, e, h1, h2, h3⟩ := h; first | exact ⟨q, cs, (put_getD_ne _ _ _ _ (by decide)).trans e, h1, h2, h3.below hE h3.lt⟩ | (obtain ⟨cs', g1, g2⟩ := hE.box h3; exact ⟨q, cs', e, h1, g1.trans h2, g2⟩)) | (obtain ⟨q, A, c, e, h1, h2, h3⟩ := h; exact ⟨q, A, c, (put_getD_ne _ _ _ _ (by decide)).trans e, h1, h2.below hE h2.lt, (h3.below hE (Nat.le_refl _)).wide (Nat.le_refl _) hE.size⟩)
        · simp only at hE h ⊢; first | exact h | exact (put_getD_ne _ _ _ _ (by decide)).trans h | (obtain ⟨A, c, e, h⟩ := h; first | exact ⟨A, c, (put_getD_ne _ _ _ _ (by decide)).trans e, (h.below hE (Nat.le_refl _)).wide (Nat.le_refl _) hE.size⟩ | exact ⟨A, c, e, hE.row (by decide) h⟩) | (obtain ⟨q, cs, e, h1, h2, h3⟩ := h; first | exact ⟨q, cs, (put_getD_ne _ _ _ _ (by decide)).trans e, h1, h2, h3.below hE h3.lt⟩ | (obtain ⟨cs', g1, g2⟩ := hE.box h3; exact ⟨q, cs', e, h1, g1.trans h2, g2⟩)) | (obtain ⟨q, A, c, e, h1, h2, h3⟩ := h; exact ⟨q, A, c, (put_getD_ne _ _ _ _ (by decide)).trans e, h1, h2.below hE h2.lt, (h3.below hE (Nat.le_refl _)).wide (Nat.le_refl _) hE.size⟩)
      · rcases hi with rfl | rfl | rfl | rfl | rfl | rfl | rfl | rfl | rfl | rfl
        · simp only at hE h ⊢; first | exact h | exact (put_getD_ne _ _ _ _ (by decide)).trans h | (obtain ⟨A, c, e, h⟩ := h; first | exact ⟨A, c, (put_getD_ne _ _ _ _ (by decide)).trans e, (h.below hE (Nat.le_refl _)).wide (Nat.le_refl _) hE.size⟩ | exact ⟨A, c, e, hE.row (by decide) h⟩) | (obtain ⟨q, cs, e, h1, h2, h3⟩ := h; first | exact ⟨q, cs, (put_getD_ne _ _ _ _ (by decide)).trans e, h1, h2, h3.below hE h3.lt⟩ | (obtain ⟨cs', g1, g2⟩ := hE.box h3; exact ⟨q, cs', e, h1, g1.trans h2, g2⟩)) | (obtain ⟨q, A, c, e, h1, h2, h3⟩ := h; exact ⟨q, A, c, (put_getD_ne _ _ _ _ (by decide)).trans e, h1, h2.below hE h2.lt, (h3.below hE (Nat.le_refl _)).wide (Nat.le_refl _) hE.size⟩)
        · exact absurd rfl hij
        · simp only at hE h ⊢; first | exact h | exact (put_getD_ne _ _ _ _ (by decide)).trans h | (obtain ⟨A, c, e, h⟩ := h; first | exact ⟨A, c, (put_getD_ne _ _ _ _ (by decide)).trans e, (h.below hE (Nat.le_refl _)).wide (Nat.le_refl _) hE.size⟩ | exact ⟨A, c, e, hE.row (by decide) h⟩) | (obtain ⟨q, cs, e, h1, h2, h3⟩ := h; first | exact ⟨q, cs, (put_getD_ne _ _ _ _ (by decide)).trans e, h1, h2, h3.below hE h3.lt⟩ | (obtain ⟨cs', g1, g2⟩ := hE.box h3; exact ⟨q, cs', e, h1, g1.trans h2, g2⟩)) | (obtain ⟨q, A, c, e, h1, h2, h3⟩ := h; exact ⟨q, A, c, (put_getD_ne _ _ _ _ (by decide)).trans e, h1, h2.below hE h2.lt, (h3.below hE (Nat.le_refl _)).wide (Nat.le_refl _) hE.size⟩)
        · simp only at hE h ⊢; first | exact h | exact (put_getD_ne _ _ _ _ (by decide)).trans h | (obtain ⟨A, c, e, h⟩ := h; first | exact ⟨A, c, (put_getD_ne _ _ _ _ (by decide)).trans e, (h.below hE (Nat.le_refl _)).wide (Nat.le_refl _) hE.size⟩ | exact ⟨A, c, e, hE.row (by decide) h⟩) | (obtain ⟨q, cs, e, h1, h2, h3⟩ := h; first | exact ⟨q, cs, (put_getD_ne _ _ _ _ (by decide)).trans e, h1, h2, h3.below hE h3.lt⟩ | (obtain ⟨cs', g1, g2⟩ := hE.box h3; exact ⟨q, cs', e, h1, g1.trans h2, g2⟩)) | (obtain ⟨q, A, c, e, h1, h2, h3⟩ := h; exact ⟨q, A, c, (put_getD_ne _ _ _ _ (by decide)).trans e, h1, h2.below hE h2.lt, (h3.below hE (Nat.le_refl _)).wide (Nat.le_refl _) hE.size⟩)
        · simp only at hE h ⊢; first | exact h | exact (put_getD_ne _ _ _ _ (by decide)).trans h | (obtain ⟨A, c, e, h⟩ := h; first | exact ⟨A, c, (put_getD_ne _ _ _ _ (by decide)).trans e, (h.below hE (Nat.le_refl _)).wide (Nat.le_refl _) hE.size⟩ | exact ⟨A, c, e, hE.row (by decide) h⟩) | (obtain ⟨q, cs, e, h1, h2, h3⟩ := h; first | exact ⟨q, cs, (put_getD_ne _ _ _ _ (by decide)).trans e, h1, h2, h3.below hE h3.lt⟩ | (obtain ⟨cs', g1, g2⟩ := hE.box h3; exact ⟨q, cs', e, h1, g1.trans h2, g2⟩)) | (obtain ⟨q, A, c, e, h1, h2, h3⟩ := h; exact ⟨q, A, c, (put_getD_ne _ _ _ _ (by decide)).trans e, h1, h2.below hE h2.lt, (h3.below hE (Nat.le_refl _)).wide (Nat.le_refl _) hE.size⟩)
        · simp only at hE h ⊢; first | exact h | exact (put_getD_ne _ _ _ _ (by decide)).trans h | (obtain ⟨A, c, e, h⟩ := h; first | exact ⟨A, c, (put_getD_ne _ _ _ _ (by decide)).trans e, (h.below hE (Nat.le_refl _)).wide (Nat.le_refl _) hE.size⟩ | exact ⟨A, c, e, hE.row (by decide) h⟩) | (obtain ⟨q, cs, e, h1, h2, h3⟩ := h; first | exact ⟨q, cs, (put_getD_ne _ _ _ _ (by decide)).trans e, h1, h2, h3.below hE h3.lt⟩ | (obtain ⟨cs', g1, g2⟩ := hE.box h3; exact ⟨q, cs', e, h1, g1.trans h2, g2⟩)) | (obtain ⟨q, A, c, e, h1, h2, h3⟩ := h; exact ⟨q, A, c, (put_getD_ne _ _ _ _ (by decide)).trans e, h1, h2.below hE h2.lt, (h3.below hE (Nat.le_refl _)).wide (Nat.le_refl _) hE.size⟩)
        · simp only at hE h ⊢; first | exact h | exact (put_getD_ne _ _ _ _ (by decide)).trans h | (obtain ⟨A, c, e, h⟩ := h; first | exact ⟨A, c, (put_getD_ne _ _ _ _ (by decide)).trans e, (h.below hE (Nat.le_refl _)).wide (Nat.le_refl _) hE.size⟩ | exact ⟨A, c, e, hE.row (by decide) h⟩) | (obtain ⟨q, cs, e, h1, h2, h3⟩ := h; first | exact ⟨q, cs, (put_getD_ne _ _ _ _ (by decide)).trans e, h1, h2, h3.below hE h3.lt⟩ | (obtain ⟨cs', g1, g2⟩ := hE.box h3; exact ⟨q, cs', e, h1, g1.trans h2, g2⟩)) | (obtain ⟨q, A, c, e, h1, h2, h3⟩ := h; exact ⟨q, A, c, (put_getD_ne _ _ _ _ (by decide)).trans e, h1, h2.below hE h2.lt, (h3.below hE (Nat.le_refl _)).wide (Nat.le_refl _) hE.size⟩)
        · simp only at hE h ⊢; first | exact h | exact (put_getD_ne _ _ _ _ (by decide)).trans h | (obtain ⟨A, c, e, h⟩ := h; first | exact ⟨A, c, (put_getD_ne _ _ _ _ (by decide)).trans e, (h.below hE (Nat.le_refl _)).wide (Nat.le_refl _) hE.size⟩ | exact ⟨A, c, e, hE.row (by decide) h⟩) | (obtain ⟨q, cs, e, h1, h2, h3⟩ := h; first | exact ⟨q, cs, (put_getD_ne _ _ _ _ (by decide)).trans e, h1, h2, h3.below hE h3.lt⟩ | (obtain ⟨cs', g1, g2⟩ := hE.box h3; exact ⟨q, cs', e, h1, g1.trans h2, g2⟩)) | (obtain ⟨q, A, c, e, h1, h2, h3⟩ := h; exact ⟨q, A, c, (put_getD_ne _ _ _ _ (by decide)).trans e, h1, h2.below hE h2.lt, (h3.below hE (Nat.le_refl _)).wide (Nat.le_refl _) hE.size⟩)
        · simp only at hE h ⊢; first | exact h | exact (put_getD_ne _ _ _ _ (by decide)).trans h | (obtain ⟨A, c, e, h⟩ := h; first | exact ⟨A, c, (put_getD_ne _ _ _ _ (by decide)).trans e, (h.below hE (Nat.le_refl _)).wide (Nat.le_refl _) hE.size⟩ | exact ⟨A, c, e, hE.row (by decide) h⟩) | (obtain ⟨q, cs, e, h1, h2, h3⟩ := h; first | exact ⟨q, cs, (put_getD_ne _ _ _ _ (by decide)).trans e, h1, h2, h3.below hE h3.lt⟩ | (obtain ⟨cs', g1, g2⟩ := hE.box h3; exact ⟨q, cs', e, h1, g1.trans h2, g2⟩)) | (obtain ⟨q, A, c, e, h1, h2, h3⟩ := h; exact ⟨q, A, c, (put_getD_ne _ _ _ _ (by decide)).trans e, h1, h2.below hE h2.lt, (h3.below hE (Nat.le_refl _)).wide (Nat.le_refl _) hE.size⟩)
        · simp only at hE h ⊢; first | exact h | exact (put_getD_ne _ _ _ _ (by decide)).trans h | (obtain ⟨A, c, e, h⟩ := h; first | exact ⟨A, c, (put_getD_ne _ _ _ _ (by decide)).trans e, (h.below hE (Nat.le_refl _)).wide (Nat.le_refl _) hE.size⟩ | exact ⟨A, c, e, hE.row (by decide) h⟩) | (obtain ⟨q, cs, e, h1, h2, h3⟩ := h; first | exact ⟨q, cs, (put_getD_ne _ _ _ _ (by decide)).trans e, h1, h2, h3.below hE h3.lt⟩ | (obtain ⟨cs', g1, g2⟩ := hE.box h3; exact ⟨q, cs', e, h1, g1.trans h2, g2⟩)) | (obtain ⟨q, A, c, e, h1, h2, h3⟩ := h; exact ⟨q, A, c, (put_getD_ne _ _ _ _ (by decide)).trans e, h1, h2.below hE h2.lt, (h3.below hE (Nat.le_refl _)).wide (Nat.le_refl _) hE.size⟩)
      · rcases hi with rfl | rfl | rfl | rfl | rfl | rfl | rfl | rfl | rfl | rfl
        · simp only at hE h ⊢; first | exact h | exact (put_getD_ne _ _ _ _ (by decide)).trans h | (obtain ⟨A, c, e, h⟩ := h; first | exact ⟨A, c, (put_getD_ne _ _ _ _ (by decide)).trans e, (h.below hE (Nat.le_refl _)).wide (Nat.le_refl _) hE.size⟩ | exact ⟨A, c, e, hE.row (by decide) h⟩) | (obtain ⟨q, cs, e, h1, h2, h3⟩ := h; first | exact ⟨q, cs, (put_getD_ne _ _ _ _ (by decide)).trans e, h1, h2, h3.below hE h3.lt⟩ | (obtain ⟨cs', g1, g2⟩ := hE.box h3; exact ⟨q, cs', e, h1, g1.trans h2, g2⟩)) | (obtain ⟨q, A, c, e, h1, h2, h3⟩ := h; exact ⟨q, A, c, (put_getD_ne _ _ _ _ (by decide)).trans e, h1, h2.below hE h2.lt, (h3.below hE (Nat.le_refl _)).wide (Nat.le_refl _) hE.size⟩)
        · simp only at hE h ⊢; first | exact h | exact (put_getD_ne _ _ _ _ (by decide)).trans h | (obtain ⟨A, c, e, h⟩ := h; first | exact ⟨A, c, (put_getD_ne _ _ _ _ (by decide)).trans e, (h.below hE (Nat.le_refl _)).wide (Nat.le_refl _) hE.size⟩ | exact ⟨A, c, e, hE.row (by decide) h⟩) | (obtain ⟨q, cs, e, h1, h2, h3⟩ := h; first | exact ⟨q, cs, (put_getD_ne _ _ _ _ (by decide)).trans e, h1, h2, h3.below hE h3.lt⟩ | (obtain ⟨cs', g1, g2⟩ := hE.box h3; exact ⟨q, cs', e, h1, g1.trans h2, g2⟩)) | (obtain ⟨q, A, c, e, h1, h2, h3⟩ := h; exact ⟨q, A, c, (put_getD_ne _ _ _ _ (by decide)).trans e, h1, h2.below hE h2.lt, (h3.below hE (Nat.le_refl _)).wide (Nat.le_refl _) hE.size⟩)
        · exact absurd rfl hij
        · simp only at hE h ⊢; first | exact h | exact (put_getD_ne _ _ _ _ (by decide)).trans h | (obtain ⟨A, c, e, h⟩ := h; first | exact ⟨A, c, (put_getD_ne _ _ _ _ (by decide)).trans e, (h.below hE (Nat.le_refl _)).wide (Nat.le_refl _) hE.size⟩ | exact ⟨A, c, e, hE.row (by decide) h⟩) | (obtain ⟨q, cs, e, h1, h2, h3⟩ := h; first | exact ⟨q, cs, (put_getD_ne _ _ _ _ (by decide)).trans e, h1, h2, h3.below hE h3.lt⟩ | (obtain ⟨cs', g1, g2⟩ := hE.box h3; exact ⟨q, cs', e, h1, g1.trans h2, g2⟩)) | (obtain ⟨q, A, c, e, h1, h2, h3⟩ := h; exact ⟨q, A, c, (put_getD_ne _ _ _ _ (by decide)).trans e, h1, h2.below hE h2.lt, (h3.below hE (Nat.le_refl _)).wide (Nat.le_refl _) hE.size⟩)
        · simp only at hE h ⊢; first | exact h | exact (put_getD_ne _ _ _ _ (by decide)).trans h | (obtain ⟨A, c, e, h⟩ := h; first | exact ⟨A, c, (put_getD_ne _ _ _ _ (by decide)).trans e, (h.below hE (Nat.le_refl _)).wide (Nat.le_refl _) hE.size⟩ | exact ⟨A, c, e, hE.row (by decide) h⟩) | (obtain ⟨q, cs, e, h1, h2, h3⟩ := h; first | exact ⟨q, cs, (put_getD_ne _ _ _ _ (by decide)).trans e, h1, h2, h3.below hE h3.lt⟩ | (obtain ⟨cs', g1, g2⟩ := hE.box h3; exact ⟨q, cs', e, h1, g1.trans h2, g2⟩)) | (obtain ⟨q, A, c, e, h1, h2, h3⟩ := h; exact ⟨q, A, c, (put_getD_ne _ _ _ _ (by decide)).trans e, h1, h2.below hE h2.lt, (h3.below hE (Nat.le_refl _)).wide (Nat.le_refl _) hE.size⟩)
        · simp only at hE h ⊢; first | exact h | exact (put_getD_ne _ _ _ _ (by decide)).trans h | (obtain ⟨A, c, e, h⟩ := h; first | exact ⟨A, c, (put_getD_ne _ _ _ _ (by decide)).trans e, (h.below hE (Nat.le_refl _)).wide (Nat.le_refl _) hE.size⟩ | exact ⟨A, c, e, hE.row (by decide) h⟩) | (obtain ⟨q, cs, e, h1, h2, h3⟩ := h; first | exact ⟨q, cs, (put_getD_ne _ _ _ _ (by decide)).trans e, h1, h2, h3.below hE h3.lt⟩ | (obtain ⟨cs', g1, g2⟩ := hE.box h3; exact ⟨q, cs', e, h1, g1.trans h2, g2⟩)) | (obtain ⟨q, A, c, e, h1, h2, h3⟩ := h; exact ⟨q, A, c, (put_getD_ne _ _ _ _ (by decide)).trans e, h1, h2.below hE h2.lt, (h3.below hE (Nat.le_refl _)).wide (Nat.le_refl _) hE.size⟩)
        · simp only at hE h ⊢; first | exact h | exact (put_getD_ne _ _ _ _ (by decide)).trans h | (obtain ⟨A, c, e, h⟩ := h; first | exact ⟨A, c, (put_getD_ne _ _ _ _ (by decide)).trans e, (h.below hE (Nat.le_refl _)).wide (Nat.le_refl _) hE.size⟩ | exact ⟨A, c, e, hE.row (by decide) h⟩) | (obtain ⟨q, cs, e, h1, h2, h3⟩ := h; first | exact ⟨q, cs, (put_getD_ne _ _ _ _ (by decide)).trans e, h1, h2, h3.below hE h3.lt⟩ | (obtain ⟨cs', g1, g2⟩ := hE.box h3; exact ⟨q, cs', e, h1, g1.trans h2, g2⟩)) | (obtain ⟨q, A, c, e, h1, h2, h3⟩ := h; exact ⟨q, A, c, (put_getD_ne _ _ _ _ (by decide)).trans e, h1, h2.below hE h2.lt, (h3.below hE (Nat.le_refl _)).wide (Nat.le_refl _) hE.size⟩)
        · simp only at hE h ⊢; first | exact h | exact (put_getD_ne _ _ _ _ (by decide)).trans h | (obtain ⟨A, c, e, h⟩ := h; first | exact ⟨A, c, (put_getD_ne _ _ _ _ (by decide)).trans e, (h.below hE (Nat.le_refl _)).wide (Nat.le_refl _) hE.size⟩ | exact ⟨A, c, e, hE.row (by decide) h⟩) | (obtain ⟨q, cs, e, h1, h2, h3⟩ := h; first | exact ⟨q, cs, (put_getD_ne _ _ _ _ (by decide)).trans e, h1, h2, h3.below hE h3.lt⟩ | (obtain ⟨cs', g1, g2⟩ := hE.box h3; exact ⟨q, cs', e, h1, g1.trans h2, g2⟩)) | (obtain ⟨q, A, c, e, h1, h2, h3⟩ := h; exact ⟨q, A, c, (put_getD_ne _ _ _ _ (by decide)).trans e, h1, h2.below hE h2.lt, (h3.below hE (Nat.le_refl _)).wide (Nat.le_refl _) hE.size⟩)
        · simp only at hE h ⊢; first | exact h | exact (put_getD_ne _ _ _ _ (by decide)).trans h | (obtain ⟨A, c, e, h⟩ := h; first | exact ⟨A, c, (put_getD_ne _ _ _ _ (by decide)).trans e, (h.below hE (Nat.le_refl _)).wide (Nat.le_refl _) hE.size⟩ | exact ⟨A, c, e, hE.row (by decide) h⟩) | (obtain ⟨q, cs, e, h1, h2, h3⟩ := h; first | exact ⟨q, cs, (put_getD_ne _ _ _ _ (by decide)).trans e, h1, h2, h3.below hE h3.lt⟩ | (obtain ⟨cs', g1, g2⟩ := hE.box h3; exact ⟨q, cs', e, h1, g1.trans h2, g2⟩)) | (obtain ⟨q, A, c, e, h1, h2, h3⟩ := h; exact ⟨q, A, c, (put_getD_ne _ _ _ _ (by decide)).trans e, h1, h2.below hE h2.lt, (h3.below hE (Nat.le_refl _)).wide (Nat.le_refl _) hE.size⟩)
        · simp only at hE h ⊢; first | exact h | exact (put_getD_ne _ _ _ _ (by decide)).trans h | (obtain ⟨A, c, e, h⟩ := h; first | exact ⟨A, c, (put_getD_ne _ _ _ _ (by decide)).trans e, (h.below hE (Nat.le_refl _)).wide (Nat.le_refl _) hE.size⟩ | exact ⟨A, c, e, hE.row (by decide) h⟩) | (obtain ⟨q, cs, e, h1, h2, h3⟩ := h; first | exact ⟨q, cs, (put_getD_ne _ _ _ _ (by decide)).trans e, h1, h2, h3.below hE h3.lt⟩ | (obtain ⟨cs', g1, g2⟩ := hE.box h3; exact ⟨q, cs', e, h1, g1.trans h2, g2⟩)) | (obtain ⟨q, A, c, e, h1, h2, h3⟩ := h; exact ⟨q, A, c, (put_getD_ne _ _ _ _ (by decide)).trans e, h1, h2.below hE h2.lt, (h3.below hE (Nat.le_refl _)).wide (Nat.le_refl _) hE.size⟩)
      · rcases hi with rfl | rfl | rfl | rfl | rfl | rfl | rfl | rfl | rfl | rfl
        · simp only at hE h ⊢; first | exact h | exact (put_getD_ne _ _ _ _ (by decide)).trans h | (obtain ⟨A, c, e, h⟩ := h; first | exact ⟨A, c, (put_getD_ne _ _ _ _ (by decide)).trans e, (h.below hE (Nat.le_refl _)).wide (Nat.le_refl _) hE.size⟩ | exact ⟨A, c, e, hE.row (by decide) h⟩) | (obtain ⟨q, cs, e, h1, h2, h3⟩ := h; first | exact ⟨q, cs, (put_getD_ne _ _ _ _ (by decide)).trans e, h1, h2, h3.below hE h3.lt⟩ | (obtain ⟨cs', g1, g2⟩ := hE.box h3; exact ⟨q, cs', e, h1, g1.trans h2, g2⟩)) | (obtain ⟨q, A, c, e, h1, h2, h3⟩ := h; exact ⟨q, A, c, (put_getD_ne _ _ _ _ (by decide)).trans e, h1, h2.below hE h2.lt, (h3.below hE (Nat.le_refl _)).wide (Nat.le_refl _) hE.size⟩)
        · simp only at hE h ⊢; first | exact h | exact (put_getD_ne _ _ _ _ (by decide)).trans h | (obtain ⟨A, c, e, h⟩ := h; first | exact ⟨A, c, (put_getD_ne _ _ _ _ (by decide)).trans e, (h.below hE (Nat.le_refl _)).wide (Nat.le_refl _) hE.size⟩ | exact ⟨A, c, e, hE.row (by decide) h⟩) | (obtain ⟨q, cs, e, h1, h2, h3⟩ := h; first | exact ⟨q, cs, (put_getD_ne _ _ _ _ (by decide)).trans e, h1, h2, h3.below hE h3.lt⟩ | (obtain ⟨cs', g1, g2⟩ := hE.box h3; exact ⟨q, cs', e, h1, g1.trans h2, g2⟩)) | (obtain ⟨q, A, c, e, h1, h2, h3⟩ := h; exact ⟨q, A, c, (put_getD_ne _ _ _ _ (by decide)).trans e, h1, h2.below hE h2.lt, (h3.below hE (Nat.le_refl _)).wide (Nat.le_refl _) hE.size⟩)
        · simp only at hE h ⊢; first | exact h | exact (put_getD_ne _ _ _ _ (by decide)).trans h | (obtain ⟨A, c, e, h⟩ := h; first | exact ⟨A, c, (put_getD_ne _ _ _ _ (by decide)).trans e, (h.below hE (Nat.le_refl _)).wide (Nat.le_refl _) hE.size⟩ | exact ⟨A, c, e, hE.row (by decide) h⟩) | (obtain ⟨q, cs, e, h1, h2, h3⟩ := h; first | exact ⟨q, cs, (put_getD_ne _ _ _ _ (by decide)).trans e, h1, h2, h3.below hE h3.lt⟩ | (obtain ⟨cs', g1, g2⟩ := hE.box h3; exact ⟨q, cs', e, h1, g1.trans h2, g2⟩)) | (obtain ⟨q, A, c, e, h1, h2, h3⟩ := h; exact ⟨q, A, c, (put_getD_ne _ _ _ _ (by decide)).trans e, h1, h2.below hE h2.lt, (h3.below hE (Nat.le_refl _)).wide (Nat.le_refl _) hE.size⟩)
        · exact absurd rfl hij
        · simp only at hE h ⊢; first | exact h | exact (put_getD_ne _ _ _ _ (by decide)).trans h | (obtain ⟨A, c, e, h⟩ := h; first | exact ⟨A, c, (put_getD_ne _ _ _ _ (by decide)).trans e, (h.below hE (Nat.le_refl _)).wide (Nat.le_refl _) hE.size⟩ | exact ⟨A, c, e, hE.row (by decide) h⟩) | (obtain ⟨q, cs, e, h1, h2, h3⟩ := h; first | exact ⟨q, cs, (put_getD_ne _ _ _ _ (by decide)).trans e, h1, h2, h3.below hE h3.lt⟩ | (obtain ⟨cs', g1, g2⟩ := hE.box h3; exact ⟨q, cs', e, h1, g1.trans h2, g2⟩)) | (obtain ⟨q, A, c, e, h1, h2, h3⟩ := h; exact ⟨q, A, c, (put_getD_ne _ _ _ _ (by decide)).trans e, h1, h2.below hE h2.lt, (h3.below hE (Nat.le_refl _)).wide (Nat.le_refl _) hE.size⟩)
        · simp only at hE h ⊢; first | exact h | exact (put_getD_ne _ _ _ _ (by decide)).trans h | (obtain ⟨A, c, e, h⟩ := h; first | exact ⟨A, c, (put_getD_ne _ _ _ _ (by decide)).trans e, (h.below hE (Nat.le_refl _)).wide (Nat.le_refl _) hE.size⟩ | exact ⟨A, c, e, hE.row (by decide) h⟩) | (obtain ⟨q, cs, e, h1, h2, h3⟩ := h; first | exact ⟨q, cs, (put_getD_ne _ _ _ _ (by decide)).trans e, h1, h2, h3.below hE h3.lt⟩ | (obtain ⟨cs', g1, g2⟩ := hE.box h3; exact ⟨q, cs', e, h1, g1.trans h2, g2⟩)) | (obtain ⟨q, A, c, e, h1, h2, h3⟩ := h; exact ⟨q, A, c, (put_getD_ne _ _ _ _ (by decide)).trans e, h1, h2.below hE h2.lt, (h3.below hE (Nat.le_refl _)).wide (Nat.le_refl _) hE.size⟩)
        · simp only at hE h ⊢; first | exact h | exact (put_getD_ne _ _ _ _ (by decide)).trans h | (obtain ⟨A, c, e, h⟩ := h; first | exact ⟨A, c, (put_getD_ne _ _ _ _ (by decide)).trans e, (h.below hE (Nat.le_refl _)).wide (Nat.le_refl _) hE.size⟩ | exact ⟨A, c, e, hE.row (by decide) h⟩) | (obtain ⟨q, cs, e, h1, h2, h3⟩ := h; first | exact ⟨q, cs, (put_getD_ne _ _ _ _ (by decide)).trans e, h1, h2, h3.below hE h3.lt⟩ | (obtain ⟨cs', g1, g2⟩ := hE.box h3; exact ⟨q, cs', e, h1, g1.trans h2, g2⟩)) | (obtain ⟨q, A, c, e, h1, h2, h3⟩ := h; exact ⟨q, A, c, (put_getD_ne _ _ _ _ (by decide)).trans e, h1, h2.below hE h2.lt, (h3.below hE (Nat.le_refl _)).wide (Nat.le_refl _) hE.size⟩)
        · simp only at hE h ⊢; first | exact h | exact (put_getD_ne _ _ _ _ (by decide)).trans h | (obtain ⟨A, c, e, h⟩ := h; first | exact ⟨A, c, (put_getD_ne _ _ _ _ (by decide)).trans e, (h.below hE (Nat.le_refl _)).wide (Nat.le_refl _) hE.size⟩ | exact ⟨A, c, e, hE.row (by decide) h⟩) | (obtain ⟨q, cs, e, h1, h2, h3⟩ := h; first | exact ⟨q, cs, (put_getD_ne _ _ _ _ (by decide)).trans e, h1, h2, h3.below hE h3.lt⟩ | (obtain ⟨cs', g1, g2⟩ := hE.box h3; exact ⟨q, cs', e, h1, g1.trans h2, g2⟩)) | (obtain ⟨q, A, c, e, h1, h2, h3⟩ := h; exact ⟨q, A, c, (put_getD_ne _ _ _ _ (by decide)).trans e, h1, h2.below hE h2.lt, (h3.below hE (Nat.le_refl _)).wide (Nat.le_refl _) hE.size⟩)
        · simp only at hE h ⊢; first | exact h | exact (put_getD_ne _ _ _ _ (by decide)).trans h | (obtain ⟨A, c, e, h⟩ := h; first | exact ⟨A, c, (put_getD_ne _ _ _ _ (by decide)).trans e, (h.below hE (Nat.le_refl _)).wide (Nat.le_refl _) hE.size⟩ | exact ⟨A, c, e, hE.row (by decide) h⟩) | (obtain ⟨q, cs, e, h1, h2, h3⟩ := h; first | exact ⟨q, cs, (put_getD_ne _ _ _ _ (by decide)).trans e, h1, h2, h3.below hE h3.lt⟩ | (obtain ⟨cs', g1, g2⟩ := hE.box h3; exact ⟨q, cs', e, h1, g1.trans h2, g2⟩)) | (obtain ⟨q, A, c, e, h1, h2, h3⟩ := h; exact ⟨q, A, c, (put_getD_ne _ _ _ _ (by decide)).trans e, h1, h2.below hE h2.lt, (h3.below hE (Nat.le_refl _)).wide (Nat.le_refl _) hE.size⟩)
        · simp only at hE h ⊢; first | exact h | exact (put_getD_ne _ _ _ _ (by decide)).trans h | (obtain ⟨A, c, e, h⟩ := h; first | exact ⟨A, c, (put_getD_ne _ _ _ _ (by decide)).trans e, (h.below hE (Nat.le_refl _)).wide (Nat.le_refl _) hE.size⟩ | exact ⟨A, c, e, hE.row (by decide) h⟩) | (obtain ⟨q, cs, e, h1, h2, h3⟩ := h; first | exact ⟨q, cs, (put_getD_ne _ _ _ _ (by decide)).trans e, h1, h2, h3.below hE h3.lt⟩ | (obtain ⟨cs', g1, g2⟩ := hE.box h3; exact ⟨q, cs', e, h1, g1.trans h2, g2⟩)) | (obtain ⟨q, A, c, e, h1, h2, h3⟩ := h; exact ⟨q, A, c, (put_getD_ne _ _ _ _ (by decide)).trans e, h1, h2.below hE h2.lt, (h3.below hE (Nat.le_refl _)).wide (Nat.le_refl _) hE.size⟩)
      · rcases hi with rfl | rfl | rfl | rfl | rfl | rfl | rfl | rfl | rfl | rfl
        · simp only at hE h ⊢; first | exact h | exact (put_getD_ne _ _ _ _ (by decide)).trans h | (obtain ⟨A, c, e, h⟩ := h; first | exact ⟨A, c, (put_getD_ne _ _ _ _ (by decide)).trans e, (h.below hE (Nat.le_refl _)).wide (Nat.le_refl _) hE.size⟩ | exact ⟨A, c, e, hE.row (by decide) h⟩) | (obtain ⟨q, cs, e, h1, h2, h3⟩ := h; first | exact ⟨q, cs, (put_getD_ne _ _ _ _ (by decide)).trans e, h1, h2, h3.below hE h3.lt⟩ | (obtain ⟨cs', g1, g2⟩ := hE.box h3; exact ⟨q, cs', e, h1, g1.trans h2, g2⟩)) | (obtain ⟨q, A, c, e, h1, h2, h3⟩ := h; exact ⟨q, A, c, (put_getD_ne _ _ _ _ (by decide)).trans e, h1, h2.below hE h2.lt, (h3.below hE (Nat.le_refl _)).wide (Nat.le_refl _) hE.size⟩)
        · simp only at hE h ⊢; first | exact h | exact (put_getD_ne _ _ _ _ (by decide)).trans h | (obtain ⟨A, c, e, h⟩ := h; first | exact ⟨A, c, (put_getD_ne _ _ _ _ (by decide)).trans e, (h.below hE (Nat.le_refl _)).wide (Nat.le_refl _) hE.size⟩ | exact ⟨A, c, e, hE.row (by decide) h⟩) | (obtain ⟨q, cs, e, h1, h2, h3⟩ := h; first | exact ⟨q, cs, (put_getD_ne _ _ _ _ (by decide)).trans e, h1, h2, h3.below hE h3.lt⟩ | (obtain ⟨cs', g1, g2⟩ := hE.box h3; exact ⟨q, cs', e, h1, g1.trans h2, g2⟩)) | (obtain ⟨q, A, c, e, h1, h2, h3⟩ := h; exact ⟨q, A, c, (put_getD_ne _ _ _ _ (by decide)).trans e, h1, h2.below hE h2.lt, (h3.below hE (Nat.le_refl _)).wide (Nat.le_refl _) hE.size⟩)
        · simp only at hE h ⊢; first | exact h | exact (put_getD_ne _ _ _ _ (by decide)).trans h | (obtain ⟨A, c, e, h⟩ := h; first | exact ⟨A, c, (put_getD_ne _ _ _ _ (by decide)).trans e, (h.below hE (Nat.le_refl _)).wide (Nat.le_refl _) hE.size⟩ | exact ⟨A, c, e, hE.row (by decide) h⟩) | (obtain ⟨q, cs, e, h1, h2, h3⟩ := h; first | exact ⟨q, cs, (put_getD_ne _ _ _ _ (by decide)).trans e, h1, h2, h3.below hE h3.lt⟩ | (obtain ⟨cs', g1, g2⟩ := hE.box h3; exact ⟨q, cs', e, h1, g1.trans h2, g2⟩)) | (obtain ⟨q, A, c, e, h1, h2, h3⟩ := h; exact ⟨q, A, c, (put_getD_ne _ _ _ _ (by decide)).trans e, h1, h2.below hE h2.lt, (h3.below hE (Nat.le_refl _)).wide (Nat.le_refl _) hE.size⟩)
        · simp only at hE h ⊢; first | exact h | exact (put_getD_ne _ _ _ _ (by decide)).trans h | (obtain ⟨A, c, e, h⟩ := h; first | exact ⟨A, c, (put_getD_ne _ _ _ _ (by decide)).trans e, (h.below hE (Nat.le_refl _)).wide (Nat.le_refl _) hE.size⟩ | exact ⟨A, c, e, hE.row (by decide) h⟩) | (obtain ⟨q, cs, e, h1, h2, h3⟩ := h; first | exact ⟨q, cs, (put_getD_ne _ _ _ _ (by decide)).trans e, h1, h2, h3.below hE h3.lt⟩ | (obtain ⟨cs', g1, g2⟩ := hE.box h3; exact ⟨q, cs', e, h1, g1.trans h2, g2⟩)) | (obtain ⟨q, A, c, e, h1, h2, h3⟩ := h; exact ⟨q, A, c, (put_getD_ne _ _ _ _ (by decide)).trans e, h1, h2.below hE h2.lt, (h3.below hE (Nat.le_refl _)).wide (Nat.le_refl _) hE.size⟩)
        · exact absurd rfl hij
        · simp only at hE h ⊢; first | exact h | exact (put_getD_ne _ _ _ _ (by decide)).trans h | (obtain ⟨A, c, e, h⟩ := h; first | exact ⟨A, c, (put_getD_ne _ _ _ _ (by decide)).trans e, (h.below hE (Nat.le_refl _)).wide (Nat.le_refl _) hE.size⟩ | exact ⟨A, c, e, hE.row (by decide) h⟩) | (obtain ⟨q, cs, e, h1, h2, h3⟩ := h; first | exact ⟨q, cs, (put_getD_ne _ _ _ _ (by decide)).trans e, h1, h2, h3.below hE h3.lt⟩ | (obtain ⟨cs', g1, g2⟩ := hE.box h3; exact ⟨q, cs', e, h1, g1.trans h2, g2⟩)) | (obtain ⟨q, A, c, e, h1, h2, h3⟩ := h; exact ⟨q, A, c, (put_getD_ne _ _ _ _ (by decide)).trans e, h1, h2.below hE h2.lt, (h3.below hE (Nat.le_refl _)).wide (Nat.le_refl _) hE.size⟩)
        · simp only at hE h ⊢; first | exact h | exact (put_getD_ne _ _ _ _ (by decide)).trans h | (obtain ⟨A, c, e, h⟩ := h; first | exact ⟨A, c, (put_getD_ne _ _ _ _ (by decide)).trans e, (h.below hE (Nat.le_refl _)).wide (Nat.le_refl _) hE.size⟩ | exact ⟨A, c, e, hE.row (by decide) h⟩) | (obtain ⟨q, cs, e, h1, h2, h3⟩ := h; first | exact ⟨q, cs, (put_getD_ne _ _ _ _ (by decide)).trans e, h1, h2, h3.below hE h3.lt⟩ | (obtain ⟨cs', g1, g2⟩ := hE.box h3; exact ⟨q, cs', e, h1, g1.trans h2, g2⟩)) | (obtain ⟨q, A, c, e, h1, h2, h3⟩ := h; exact ⟨q, A, c, (put_getD_ne _ _ _ _ (by decide)).trans e, h1, h2.below hE h2.lt, (h3.below hE (Nat.le_refl _)).wide (Nat.le_refl _) hE.size⟩)
        · simp only at hE h ⊢; first | exact h | exact (put_getD_ne _ _ _ _ (by decide)).trans h | (obtain ⟨A, c, e, h⟩ := h; first | exact ⟨A, c, (put_getD_ne _ _ _ _ (by decide)).trans e, (h.below hE (Nat.le_refl _)).wide (Nat.le_refl _) hE.size⟩ | exact ⟨A, c, e, hE.row (by decide) h⟩) | (obtain ⟨q, cs, e, h1, h2, h3⟩ := h; first | exact ⟨q, cs, (put_getD_ne _ _ _ _ (by decide)).trans e, h1, h2, h3.below hE h3.lt⟩ | (obtain ⟨cs', g1, g2⟩ := hE.box h3; exact ⟨q, cs', e, h1, g1.trans h2, g2⟩)) | (obtain ⟨q, A, c, e, h1, h2, h3⟩ := h; exact ⟨q, A, c, (put_getD_ne _ _ _ _ (by decide)).trans e, h1, h2.below hE h2.lt, (h3.below hE (Nat.le_refl _)).wide (Nat.le_refl _) hE.size⟩)
        · simp only at hE h ⊢; first | exact h | exact (put_getD_ne _ _ _ _ (by decide)).trans h | (obtain ⟨A, c, e, h⟩ := h; first | exact ⟨A, c, (put_getD_ne _ _ _ _ (by decide)).trans e, (h.below hE (Nat.le_refl _)).wide (Nat.le_refl _) hE.size⟩ | exact ⟨A, c, e, hE.row (by decide) h⟩) | (obtain ⟨q, cs, e, h1, h2, h3⟩ := h; first | exact ⟨q, cs, (put_getD_ne _ _ _ _ (by decide)).trans e, h1, h2, h3.below hE h3.lt⟩ | (obtain ⟨cs', g1, g2⟩ := hE.box h3; exact ⟨q, cs', e, h1, g1.trans h2, g2⟩)) | (obtain ⟨q, A, c, e, h1, h2, h3⟩ := h; exact ⟨q, A, c, (put_getD_ne _ _ _ _ (by decide)).trans e, h1, h2.below hE h2.lt, (h3.below hE (Nat.le_refl _)).wide (Nat.le_refl _) hE.size⟩)
        · simp only at hE h ⊢; first | exact h | exact (put_getD_ne _ _ _ _ (by decide)).trans h | (obtain ⟨A, c, e, h⟩ := h; first | exact ⟨A, c, (put_getD_ne _ _ _ _ (by decide)).trans e, (h.below hE (Nat.le_refl _)).wide (Nat.le_refl _) hE.size⟩ | exact ⟨A, c, e, hE.row (by decide) h⟩) | (obtain ⟨q, cs, e, h1, h2, h3⟩ := h; first | exact ⟨q, cs, (put_getD_ne _ _ _ _ (by decide)).trans e, h1, h2, h3.below hE h3.lt⟩ | (obtain ⟨cs', g1, g2⟩ := hE.box h3; exact ⟨q, cs', e, h1, g1.trans h2, g2⟩)) | (obtain ⟨q, A, c, e, h1, h2, h3⟩ := h; exact ⟨q, A, c, (put_getD_ne _ _ _ _ (by decide)).trans e, h1, h2.below hE h2.lt, (h3.below hE (Nat.le_refl _)).wide (Nat.le_refl _) hE.size⟩)
      · rcases hi with rfl | rfl | rfl | rfl | rfl | rfl | rfl | rfl | rfl | rfl
        · simp only at hE h ⊢; first | exact h | exact (put_getD_ne _ _ _ _ (by decide)).trans h | (obtain ⟨A, c, e, h⟩ := h; first | exact ⟨A, c, (put_getD_ne _ _ _ _ (by decide)).trans e, (h.below hE (Nat.le_refl _)).wide (Nat.le_refl _) hE.size⟩ | exact ⟨A, c, e, hE.row (by decide) h⟩) | (obtain ⟨q, cs, e, h1, h2, h3⟩ := h; first | exact ⟨q, cs, (put_getD_ne _ _ _ _ (by decide)).trans e, h1, h2, h3.below hE h3.lt⟩ | (obtain ⟨cs', g1, g2⟩ := hE.box h3; exact ⟨q, cs', e, h1, g1.trans h2, g2⟩)) | (obtain ⟨q, A, c, e, h1, h2, h3⟩ := h; exact ⟨q, A, c, (put_getD_ne _ _ _ _ (by decide)).trans e, h1, h2.below hE h2.lt, (h3.below hE (Nat.le_refl _)).wide (Nat.le_refl _) hE.size⟩)
        · simp only at hE h ⊢; first | exact h | exact (put_getD_ne _ _ _ _ (by decide)).trans h | (obtain ⟨A, c, e, h⟩ := h; first | exact ⟨A, c, (put_getD_ne _ _ _ _ (by decide)).trans e, (h.below hE (Nat.le_refl _)).wide (Nat.le_refl _) hE.size⟩ | exact ⟨A, c, e, hE.row (by decide) h⟩) | (obtain ⟨q, cs, e, h1, h2, h3⟩ := h; first | exact ⟨q, cs, (put_getD_ne _ _ _ _ (by decide)).trans e, h1, h2, h3.below hE h3.lt⟩ | (obtain ⟨cs', g1, g2⟩ := hE.box h3; exact ⟨q, cs', e, h1, g1.trans h2, g2⟩)) | (obtain ⟨q, A, c, e, h1, h2, h3⟩ := h; exact ⟨q, A, c, (put_getD_ne _ _ _ _ (by decide)).trans e, h1, h2.below hE h2.lt, (h3.below hE (Nat.le_refl _)).wide (Nat.le_refl _) hE.size⟩)
        · simp only at hE h ⊢; first | exact h | exact (put_getD_ne _ _ _ _ (by decide)).trans h | (obtain ⟨A, c, e, h⟩ := h; first | exact ⟨A, c, (put_getD_ne _ _ _ _ (by decide)).trans e, (h.below hE (Nat.le_refl _)).wide (Nat.le_refl _) hE.size⟩ | exact ⟨A, c, e, hE.row (by decide) h⟩) | (obtain ⟨q, cs, e, h1, h2, h3⟩ := h; first | exact ⟨q, cs, (put_getD_ne _ _ _ _ (by decide)).trans e, h1, h2, h3.below hE h3.lt⟩ | (obtain ⟨cs', g1, g2⟩ := hE.box h3; exact ⟨q, cs', e, h1, g1.trans h2, g2⟩)) | (obtain ⟨q, A, c, e, h1, h2, h3⟩ := h; exact ⟨q, A, c, (put_getD_ne _ _ _ _ (by decide)).trans e, h1, h2.below hE h2.lt, (h3.below hE (Nat.le_refl _)).wide (Nat.le_refl _) hE.size⟩)
        · simp only at hE h ⊢; first | exact h | exact (put_getD_ne _ _ _ _ (by decide)).trans h | (obtain ⟨A, c, e, h⟩ := h; first | exact ⟨A, c, (put_getD_ne _ _ _ _ (by decide)).trans e, (h.below hE (Nat.le_refl _)).wide (Nat.le_refl _) hE.size⟩ | exact ⟨A, c, e, hE.row (by decide) h⟩) | (obtain ⟨q, cs, e, h1, h2, h3⟩ := h; first | exact ⟨q, cs, (put_getD_ne _ _ _ _ (by decide)).trans e, h1, h2, h3.below hE h3.lt⟩ | (obtain ⟨cs', g1, g2⟩ := hE.box h3; exact ⟨q, cs', e, h1, g1.trans h2, g2⟩)) | (obtain ⟨q, A, c, e, h1, h2, h3⟩ := h; exact ⟨q, A, c, (put_getD_ne _ _ _ _ (by decide)).trans e, h1, h2.below hE h2.lt, (h3.below hE (Nat.le_refl _)).wide (Nat.le_refl _) hE.size⟩)
        · simp only at hE h ⊢; first | exact h | exact (put_getD_ne _ _ _ _ (by decide)).trans h | (obtain ⟨A, c, e, h⟩ := h; first | exact ⟨A, c, (put_getD_ne _ _ _ _ (by decide)).trans e, (h.below hE (Nat.le_refl _)).wide (Nat.le_refl _) hE.size⟩ | exact ⟨A, c, e, hE.row (by decide) h⟩) | (obtain ⟨q, cs, e, h1, h2, h3⟩ := h; first | exact ⟨q, cs, (put_getD_ne _ _ _ _ (by decide)).trans e, h1, h2, h3.below hE h3.lt⟩ | (obtain ⟨cs', g1, g2⟩ := hE.box h3; exact ⟨q, cs', e, h1, g1.trans h2, g2⟩)) | (obtain ⟨q, A, c, e, h1, h2, h3⟩ := h; exact ⟨q, A, c, (put_getD_ne _ _ _ _ (by decide)).trans e, h1, h2.below hE h2.lt, (h3.below hE (Nat.le_refl _)).wide (Nat.le_refl _) hE.size⟩)
        · exact absurd rfl hij
        · simp only at hE h ⊢; first | exact h | exact (put_getD_ne _ _ _ _ (by decide)).trans h | (obtain ⟨A, c, e, h⟩ := h; first | exact ⟨A, c, (put_getD_ne _ _ _ _ (by decide)).trans e, (h.below hE (Nat.le_refl _)).wide (Nat.le_refl _) hE.size⟩ | exact ⟨A, c, e, hE.row (by decide) h⟩) | (obtain ⟨q, cs, e, h1, h2, h3⟩ := h; first | exact ⟨q, cs, (put_getD_ne _ _ _ _ (by decide)).trans e, h1, h2, h3.below hE h3.lt⟩ | (obtain ⟨cs', g1, g2⟩ := hE.box h3; exact ⟨q, cs', e, h1, g1.trans h2, g2⟩)) | (obtain ⟨q, A, c, e, h1, h2, h3⟩ := h; exact ⟨q, A, c, (put_getD_ne _ _ _ _ (by decide)).trans e, h1, h2.below hE h2.lt, (h3.below hE (Nat.le_refl _)).wide (Nat.le_refl _) hE.size⟩)
        · simp only at hE h ⊢; first | exact h | exact (put_getD_ne _ _ _ _ (by decide)).trans h | (obtain ⟨A, c, e, h⟩ := h; first | exact ⟨A, c, (put_getD_ne _ _ _ _ (by decide)).trans e, (h.below hE (Nat.le_refl _)).wide (Nat.le_refl _) hE.size⟩ | exact ⟨A, c, e, hE.row (by decide) h⟩) | (obtain ⟨q, cs, e, h1, h2, h3⟩ := h; first | exact ⟨q, cs, (put_getD_ne _ _ _ _ (by decide)).trans e, h1, h2, h3.below hE h3.lt⟩ | (obtain ⟨cs', g1, g2⟩ := hE.box h3; exact ⟨q, cs', e, h1, g1.trans h2, g2⟩)) | (obtain ⟨q, A, c, e, h1, h2, h3⟩ := h; exact ⟨q, A, c, (put_getD_ne _ _ _ _ (by decide)).trans e, h1, h2.below hE h2.lt, (h3.below hE (Nat.le_refl _)).wide (Nat.le_refl _) hE.size⟩)
        · simp only at hE h ⊢; first | exact h | exact (put_getD_ne _ _ _ _ (by decide)).trans h | (obtain ⟨A, c, e, h⟩ := h; first | exact ⟨A, c, (put_getD_ne _ _ _ _ (by decide)).trans e, (h.below hE (Nat.le_refl _)).wide (Nat.le_refl _) hE.size⟩ | exact ⟨A, c, e, hE.row (by decide) h⟩) | (obtain ⟨q, cs, e, h1, h2, h3⟩ := h; first | exact ⟨q, cs, (put_getD_ne _ _ _ _ (by decide)).trans e, h1, h2, h3.below hE h3.lt⟩ | (obtain ⟨cs', g1, g2⟩ := hE.box h3; exact ⟨q, cs', e, h1, g1.trans h2, g2⟩)) | (obtain ⟨q, A, c, e, h1, h2, h3⟩ := h; exact ⟨q, A, c, (put_getD_ne _ _ _ _ (by decide)).trans e, h1, h2.below hE h2.lt, (h3.below hE (Nat.le_refl _)).wide (Nat.le_refl _) hE.size⟩)
        · simp only at hE h ⊢; first | exact h | exact (put_getD_ne _ _ _ _ (by decide)).trans h | (obtain ⟨A, c, e, h⟩ := h; first | exact ⟨A, c, (put_getD_ne _ _ _ _ (by decide)).trans e, (h.below hE (Nat.le_refl _)).wide (Nat.le_refl _) hE.size⟩ | exact ⟨A, c, e, hE.row (by decide) h⟩) | (obtain ⟨q, cs, e, h1, h2, h3⟩ := h; first | exact ⟨q, cs, (put_getD_ne _ _ _ _ (by decide)).trans e, h1, h2, h3.below hE h3.lt⟩ | (obtain ⟨cs', g1, g2⟩ := hE.box h3; exact ⟨q, cs', e, h1, g1.trans h2, g2⟩)) | (obtain ⟨q, A, c, e, h1, h2, h3⟩ := h; exact ⟨q, A, c, (put_getD_ne _ _ _ _ (by decide)).trans e, h1, h2.below hE h2.lt, (h3.below hE (Nat.le_refl _)).wide (Nat.le_refl _) hE.size⟩)
      · rcases hi with rfl | rfl | rfl | rfl | rfl | rfl | rfl | rfl | rfl | rfl
        · simp only at hE h ⊢; first | exact h | exact (put_getD_ne _ _ _ _ (by decide)).trans h | (obtain ⟨A, c, e, h⟩ := h; first | exact ⟨A, c, (put_getD_ne _ _ _ _ (by decide)).trans e, (h.below hE (Nat.le_refl _)).wide (Nat.le_refl _) hE.size⟩ | exact ⟨A, c, e, hE.row (by decide) h⟩) | (obtain ⟨q, cs, e, h1, h2, h3⟩ := h; first | exact ⟨q, cs, (put_getD_ne _ _ _ _ (by decide)).trans e, h1, h2, h3.below hE h3.lt⟩ | (obtain ⟨cs', g1, g2⟩ := hE.box h3; exact ⟨q, cs', e, h1, g1.trans h2, g2⟩)) | (obtain ⟨q, A, c, e, h1, h2, h3⟩ := h; exact ⟨q, A, c, (put_getD_ne _ _ _ _ (by decide)).trans e, h1, h2.below hE h2.lt, (h3.below hE (Nat.le_refl _)).wide (Nat.le_refl _) hE.size⟩)
        · simp only at hE h ⊢; first | exact h | exact (put_getD_ne _ _ _ _ (by decide)).trans h | (obtain ⟨A, c, e, h⟩ := h; first | exact ⟨A, c, (put_getD_ne _ _ _ _ (by decide)).trans e, (h.below hE (Nat.le_refl _)).wide (Nat.le_refl _) hE.size⟩ | exact ⟨A, c, e, hE.row (by decide) h⟩) | (obtain ⟨q, cs, e, h1, h2, h3⟩ := h; first | exact ⟨q, cs, (put_getD_ne _ _ _ _ (by decide)).trans e, h1, h2, h3.below hE h3.lt⟩ | (obtain ⟨cs', g1, g2⟩ := hE.box h3; exact ⟨q, cs', e, h1, g1.trans h2, g2⟩)) | (obtain ⟨q, A, c, e, h1, h2, h3⟩ := h; exact ⟨q, A, c, (put_getD_ne _ _ _ _ (by decide)).trans e, h1, h2.below hE h2.lt, (h3.below hE (Nat.le_refl _)).wide (Nat.le_refl _) hE.size⟩)
        · simp only at hE h ⊢; first | exact h | exact (put_getD_ne _ _ _ _ (by decide)).trans h | (obtain ⟨A, c, e, h⟩ := h; first | exact ⟨A, c, (put_getD_ne _ _ _ _ (by decide)).trans e, (h.below hE (Nat.le_refl _)).wide (Nat.le_refl _) hE.size⟩ | exact ⟨A, c, e, hE.row (by decide) h⟩) | (obtain ⟨q, cs, e, h1, h2, h3⟩ := h; first | exact ⟨q, cs, (put_getD_ne _ _ _ _ (by decide)).trans e, h1, h2, h3.below hE h3.lt⟩ | (obtain ⟨cs', g1, g2⟩ := hE.box h3; exact ⟨q, cs', e, h1, g1.trans h2, g2⟩)) | (obtain ⟨q, A, c, e, h1, h2, h3⟩ := h; exact ⟨q, A, c, (put_getD_ne _ _ _ _ (by decide)).trans e, h1, h2.below hE h2.lt, (h3.below hE (Nat.le_refl _)).wide (Nat.le_refl _) hE.size⟩)
        · simp only at hE h ⊢; first | exact h | exact (put_getD_ne _ _ _ _ (by decide)).trans h | (obtain ⟨A, c, e, h⟩ := h; first | exact ⟨A, c, (put_getD_ne _ _ _ _ (by decide)).trans e, (h.below hE (Nat.le_refl _)).wide (Nat.le_refl _) hE.size⟩ | exact ⟨A, c, e, hE.row (by decide) h⟩) | (obtain ⟨q, cs, e, h1, h2, h3⟩ := h; first | exact ⟨q, cs, (put_getD_ne _ _ _ _ (by decide)).trans e, h1, h2, h3.below hE h3.lt⟩ | (obtain ⟨cs', g1, g2⟩ := hE.box h3; exact ⟨q, cs', e, h1, g1.trans h2, g2⟩)) | (obtain ⟨q, A, c, e, h1, h2, h3⟩ := h; exact ⟨q, A, c, (put_getD_ne _ _ _ _ (by decide)).trans e, h1, h2.below hE h2.lt, (h3.below hE (Nat.le_refl _)).wide (Nat.le_refl _) hE.size⟩)
        · simp only at hE h ⊢; first | exact h | exact (put_getD_ne _ _ _ _ (by decide)).trans h | (obtain ⟨A, c, e, h⟩ := h; first | exact ⟨A, c, (put_getD_ne _ _ _ _ (by decide)).trans e, (h.below hE (Nat.le_refl _)).wide (Nat.le_refl _) hE.size⟩ | exact ⟨A, c, e, hE.row (by decide) h⟩) | (obtain ⟨q, cs, e, h1, h2, h3⟩ := h; first | exact ⟨q, cs, (put_getD_ne _ _ _ _ (by decide)).trans e, h1, h2, h3.below hE h3.lt⟩ | (obtain ⟨cs', g1, g2⟩ := hE.box h3; exact ⟨q, cs', e, h1, g1.trans h2, g2⟩)) | (obtain ⟨q, A, c, e, h1, h2, h3⟩ := h; exact ⟨q, A, c, (put_getD_ne _ _ _ _ (by decide)).trans e, h1, h2.below hE h2.lt, (h3.below hE (Nat.le_refl _)).wide (Nat.le_refl _) hE.size⟩)
        · simp only at hE h ⊢; first | exact h | exact (put_getD_ne _ _ _ _ (by decide)).trans h | (obtain ⟨A, c, e, h⟩ := h; first | exact ⟨A, c, (put_getD_ne _ _ _ _ (by decide)).trans e, (h.below hE (Nat.le_refl _)).wide (Nat.le_refl _) hE.size⟩ | exact ⟨A, c, e, hE.row (by decide) h⟩) | (obtain ⟨q, cs, e, h1, h2, h3⟩ := h; first | exact ⟨q, cs, (put_getD_ne _ _ _ _ (by decide)).trans e, h1, h2, h3.below hE h3.lt⟩ | (obtain ⟨cs', g1, g2⟩ := hE.box h3; exact ⟨q, cs', e, h1, g1.trans h2, g2⟩)) | (obtain ⟨q, A, c, e, h1, h2, h3⟩ := h; exact ⟨q, A, c, (put_getD_ne _ _ _ _ (by decide)).trans e, h1, h2.below hE h2.lt, (h3.below hE (Nat.le_refl _)).wide (Nat.le_refl _) hE.size⟩)
        · exact absurd rfl hij
        · simp only at hE h ⊢; first | exact h | exact (put_getD_ne _ _ _ _ (by decide)).trans h | (obtain ⟨A, c, e, h⟩ := h; first | exact ⟨A, c, (put_getD_ne _ _ _ _ (by decide)).trans e, (h.below hE (Nat.le_refl _)).wide (Nat.le_refl _) hE.size⟩ | exact ⟨A, c, e, hE.row (by decide) h⟩) | (obtain ⟨q, cs, e, h1, h2, h3⟩ := h; first | exact ⟨q, cs, (put_getD_ne _ _ _ _ (by decide)).trans e, h1, h2, h3.below hE h3.lt⟩ | (obtain ⟨cs', g1, g2⟩ := hE.box h3; exact ⟨q, cs', e, h1, g1.trans h2, g2⟩)) | (obtain ⟨q, A, c, e, h1, h2, h3⟩ := h; exact ⟨q, A, c, (put_getD_ne _ _ _ _ (by decide)).trans e, h1, h2.below hE h2.lt, (h3.below hE (Nat.le_refl _)).wide (Nat.le_refl _) hE.size⟩)
        · simp only at hE h ⊢; first | exact h | exact (put_getD_ne _ _ _ _ (by decide)).trans h | (obtain ⟨A, c, e, h⟩ := h; first | exact ⟨A, c, (put_getD_ne _ _ _ _ (by decide)).trans e, (h.below hE (Nat.le_refl _)).wide (Nat.le_refl _) hE.size⟩ | exact ⟨A, c, e, hE.row (by decide) h⟩) | (obtain ⟨q, cs, e, h1, h2, h3⟩ := h; first | exact ⟨q, cs, (put_getD_ne _ _ _ _ (by decide)).trans e, h1, h2, h3.below hE h3.lt⟩ | (obtain ⟨cs', g1, g2⟩ := hE.box h3; exact ⟨q, cs', e, h1, g1.trans h2, g2⟩)) | (obtain ⟨q, A, c, e, h1, h2, h3⟩ := h; exact ⟨q, A, c, (put_getD_ne _ _ _ _ (by decide)).trans e, h1, h2.below hE h2.lt, (h3.below hE (Nat.le_refl _)).wide (Nat.le_refl _) hE.size⟩)
        · simp only at hE h ⊢; first | exact h | exact (put_getD_ne _ _ _ _ (by decide)).trans h | (obtain ⟨A, c, e, h⟩ := h; first | exact ⟨A, c, (put_getD_ne _ _ _ _ (by decide)).trans e, (h.below hE (Nat.le_refl _)).wide (Nat.le_refl _) hE.size⟩ | exact ⟨A, c, e, hE.row (by decide) h⟩) | (obtain ⟨q, cs, e, h1, h2, h3⟩ := h; first | exact ⟨q, cs, (put_getD_ne _ _ _ _ (by decide)).trans e, h1, h2, h3.below hE h3.lt⟩ | (obtain ⟨cs', g1, g2⟩ := hE.box h3; exact ⟨q, cs', e, h1, g1.trans h2, g2⟩)) | (obtain ⟨q, A, c, e, h1, h2, h3⟩ := h; exact ⟨q, A, c, (put_getD_ne _ _ _ _ (by decide)).trans e, h1, h2.below hE h2.lt, (h3.below hE (Nat.le_refl _)).wide (Nat.le_refl _) hE.size⟩)
      · rcases hi with rfl | rfl | rfl | rfl | rfl | rfl | rfl | rfl | rfl | rfl
        · simp only at hE h ⊢; first | exact h | exact (put_getD_ne _ _ _ _ (by decide)).trans h | (obtain ⟨A, c, e, h⟩ := h; first | exact ⟨A, c, (put_getD_ne _ _ _ _ (by decide)).trans e, (h.below hE (Nat.le_refl _)).wide (Nat.le_refl _) hE.size⟩ | exact ⟨A, c, e, hE.row (by decide) h⟩) | (obtain ⟨q, cs, e, h1, h2, h3⟩ := h; first | exact ⟨q, cs, (put_getD_ne _ _ _ _ (by decide)).trans e, h1, h2, h3.below hE h3.lt⟩ | (obtain ⟨cs', g1, g2⟩ := hE.box h3; exact ⟨q, cs', e, h1, g1.trans h2, g2⟩)) | (obtain ⟨q, A, c, e, h1, h2, h3⟩ := h; exact ⟨q, A, c, (put_getD_ne _ _ _ _ (by decide)).trans e, h1, h2.below hE h2.lt, (h3.below hE (Nat.le_refl _)).wide (Nat.le_refl _) hE.size⟩)
        · simp only at hE h ⊢; first | exact h | exact (put_getD_ne _ _ _ _ (by decide)).trans h | (obtain ⟨A, c, e, h⟩ := h; first | exact ⟨A, c, (put_getD_ne _ _ _ _ (by decide)).trans e, (h.below hE (Nat.le_refl _)).wide (Nat.le_refl _) hE.size⟩ | exact ⟨A, c, e, hE.row (by decide) h⟩) | (obtain ⟨q, cs, e, h1, h2, h3⟩ := h; first | exact ⟨q, cs, (put_getD_ne _ _ _ _ (by decide)).trans e, h1, h2, h3.below hE h3.lt⟩ | (obtain ⟨cs', g1, g2⟩ := hE.box h3; exact ⟨q, cs', e, h1, g1.trans h2, g2⟩)) | (obtain ⟨q, A, c, e, h1, h2, h3⟩ := h; exact ⟨q, A, c, (put_getD_ne _ _ _ _ (by decide)).trans e, h1, h2.below hE h2.lt, (h3.below hE (Nat.le_refl _)).wide (Nat.le_refl _) hE.size⟩)
        · simp only at hE h ⊢; first | exact h | exact (put_getD_ne _ _ _ _ (by decide)).trans h | (obtain ⟨A, c, e, h⟩ := h; first | exact ⟨A, c, (put_getD_ne _ _ _ _ (by decide)).trans e, (h.below hE (Nat.le_refl _)).wide (Nat.le_refl _) hE.size⟩ | exact ⟨A, c, e, hE.row (by decide) h⟩) | (obtain ⟨q, cs, e, h1, h2, h3⟩ := h; first | exact ⟨q, cs, (put_getD_ne _ _ _ _ (by decide)).trans e, h1, h2, h3.below hE h3.lt⟩ | (obtain ⟨cs', g1, g2⟩ := hE.box h3; exact ⟨q, cs', e, h1, g1.trans h2, g2⟩)) | (obtain ⟨q, A, c, e, h1, h2, h3⟩ := h; exact ⟨q, A, c, (put_getD_ne _ _ _ _ (by decide)).trans e, h1, h2.below hE h2.lt, (h3.below hE (Nat.le_refl _)).wide (Nat.le_refl _) hE.size⟩)
        · simp only at hE h ⊢; first | exact h | exact (put_getD_ne _ _ _ _ (by decide)).trans h | (obtain ⟨A, c, e, h⟩ := h; first | exact ⟨A, c, (put_getD_ne _ _ _ _ (by decide)).trans e, (h.below hE (Nat.le_refl _)).wide (Nat.le_refl _) hE.size⟩ | exact ⟨A, c, e, hE.row (by decide) h⟩) | (obtain ⟨q, cs, e, h1, h2, h3⟩ := h; first | exact ⟨q, cs, (put_getD_ne _ _ _ _ (by decide)).trans e, h1, h2, h3.below hE h3.lt⟩ | (obtain ⟨cs', g1, g2⟩ := hE.box h3; exact ⟨q, cs', e, h1, g1.trans h2, g2⟩)) | (obtain ⟨q, A, c, e, h1, h2, h3⟩ := h; exact ⟨q, A, c, (put_getD_ne _ _ _ _ (by decide)).trans e, h1, h2.below hE h2.lt, (h3.below hE (Nat.le_refl _)).wide (Nat.le_refl _) hE.size⟩)
        · simp only at hE h ⊢; first | exact h | exact (put_getD_ne _ _ _ _ (by decide)).trans h | (obtain ⟨A, c, e, h⟩ := h; first | exact ⟨A, c, (put_getD_ne _ _ _ _ (by decide)).trans e, (h.below hE (Nat.le_refl _)).wide (Nat.le_refl _) hE.size⟩ | exact ⟨A, c, e, hE.row (by decide) h⟩) | (obtain ⟨q, cs, e, h1, h2, h3⟩ := h; first | exact ⟨q, cs, (put_getD_ne _ _ _ _ (by decide)).trans e, h1, h2, h3.below hE h3.lt⟩ | (obtain ⟨cs', g1, g2⟩ := hE.box h3; exact ⟨q, cs', e, h1, g1.trans h2, g2⟩)) | (obtain ⟨q, A, c, e, h1, h2, h3⟩ := h; exact ⟨q, A, c, (put_getD_ne _ _ _ _ (by decide)).trans e, h1, h2.below hE h2.lt, (h3.below hE (Nat.le_refl _)).wide (Nat.le_refl _) hE.size⟩)
        · simp only at hE h ⊢; first | exact h | exact (put_getD_ne _ _ _ _ (by decide)).trans h | (obtain ⟨A, c, e, h⟩ := h; first | exact ⟨A, c, (put_getD_ne _ _ _ _ (by decide)).trans e, (h.below hE (Nat.le_refl _)).wide (Nat.le_refl _) hE.size⟩ | exact ⟨A, c, e, hE.row (by decide) h⟩) | (obtain ⟨q, cs, e, h1, h2, h3⟩ := h; first | exact ⟨q, cs, (put_getD_ne _ _ _ _ (by decide)).trans e, h1, h2, h3.below hE h3.lt⟩ | (obtain ⟨cs', g1, g2⟩ := hE.box h3; exact ⟨q, cs', e, h1, g1.trans h2, g2⟩)) | (obtain ⟨q, A, c, e, h1, h2, h3⟩ := h; exact ⟨q, A, c, (put_getD_ne _ _ _ _ (by decide)).trans e, h1, h2.below hE h2.lt, (h3.below hE (Nat.le_refl _)).wide (Nat.le_refl _) hE.size⟩)
        · simp only at hE h ⊢; first | exact h | exact (put_getD_ne _ _ _ _ (by decide)).trans h | (obtain ⟨A, c, e, h⟩ := h; first | exact ⟨A, c, (put_getD_ne _ _ _ _ (by decide)).trans e, (h.below hE (Nat.le_refl _)).wide (Nat.le_refl _) hE.size⟩ | exact ⟨A, c, e, hE.row (by decide) h⟩) | (obtain ⟨q, cs, e, h1, h2, h3⟩ := h; first | exact ⟨q, cs, (put_getD_ne _ _ _ _ (by decide)).trans e, h1, h2, h3.below hE h3.lt⟩ | (obtain ⟨cs', g1, g2⟩ := hE.box h3; exact ⟨q, cs', e, h1, g1.trans h2, g2⟩)) | (obtain ⟨q, A, c, e, h1, h2, h3⟩ := h; exact ⟨q, A, c, (put_getD_ne _ _ _ _ (by decide)).trans e, h1, h2.below hE h2.lt, (h3.below hE (Nat.le_refl _)).wide (Nat.le_refl _) hE.size⟩)
        · exact absurd rfl hij
        · simp only at hE h ⊢; first | exact h | exact (put_getD_ne _ _ _ _ (by decide)).trans h | (obtain ⟨A, c, e, h⟩ := h; first | exact ⟨A, c, (put_getD_ne _ _ _ _ (by decide)).trans e, (h.below hE (Nat.le_refl _)).wide (Nat.le_refl _) hE.size⟩ | exact ⟨A, c, e, hE.row (by decide) h⟩) | (obtain ⟨q, cs, e, h1, h2, h3⟩ := h; first | exact ⟨q, cs, (put_getD_ne _ _ _ _ (by decide)).trans e, h1, h2, h3.below hE h3.lt⟩ | (obtain ⟨cs', g1, g2⟩ := hE.box h3; exact ⟨q, cs', e, h1, g1.trans h2, g2⟩)) | (obtain ⟨q, A, c, e, h1, h2, h3⟩ := h; exact ⟨q, A, c, (put_getD_ne _ _ _ _ (by decide)).trans e, h1, h2.below hE h2.lt, (h3.below hE (Nat.le_refl _)).wide (Nat.le_refl _) hE.size⟩)
        · simp only at hE h ⊢; first | exact h | exact (put_getD_ne _ _ _ _ (by decide)).trans h | (obtain ⟨A, c, e, h⟩ := h; first | exact ⟨A, c, (put_getD_ne _ _ _ _ (by decide)).trans e, (h.below hE (Nat.le_refl _)).wide (Nat.le_refl _) hE.size⟩ | exact ⟨A, c, e, hE.row (by decide) h⟩) | (obtain ⟨q, cs, e, h1, h2, h3⟩ := h; first | exact ⟨q, cs, (put_getD_ne _ _ _ _ (by decide)).trans e, h1, h2, h3.below hE h3.lt⟩ | (obtain ⟨cs', g1, g2⟩ := hE.box h3; exact ⟨q, cs', e, h1, g1.trans h2, g2⟩)) | (obtain ⟨q, A, c, e, h1, h2, h3⟩ := h; exact ⟨q, A, c, (put_getD_ne _ _ _ _ (by decide)).trans e, h1, h2.below hE h2.lt, (h3.below hE (Nat.le_refl _)).wide (Nat.le_refl _) hE.size⟩)
      · rcases hi with rfl | rfl | rfl | rfl | rfl | rfl | rfl | rfl | rfl | rfl
        · simp only at hE h ⊢; first | exact h | exact (put_getD_ne _ _ _ _ (by decide)).trans h | (obtain ⟨A, c, e, h⟩ := h; first | exact ⟨A, c, (put_getD_ne _ _ _ _ (by decide)).trans e, (h.below hE (Nat.le_refl _)).wide (Nat.le_refl _) hE.size⟩ | exact ⟨A, c, e, hE.row (by decide) h⟩) | (obtain ⟨q, cs, e, h1, h2, h3⟩ := h; first | exact ⟨q, cs, (put_getD_ne _ _ _ _ (by decide)).trans e, h1, h2, h3.below hE h3.lt⟩ | (obtain ⟨cs', g1, g2⟩ := hE.box h3; exact ⟨q, cs', e, h1, g1.trans h2, g2⟩)) | (obtain ⟨q, A, c, e, h1, h2, h3⟩ := h; exact ⟨q, A, c, (put_getD_ne _ _ _ _ (by decide)).trans e, h1, h2.below hE h2.lt, (h3.below hE (Nat.le_refl _)).wide (Nat.le_refl _) hE.size⟩)
        · simp only at hE h ⊢; first | exact h | exact (put_getD_ne _ _ _ _ (by decide)).trans h | (obtain ⟨A, c, e, h⟩ := h; first | exact ⟨A, c, (put_getD_ne _ _ _ _ (by decide)).trans e, (h.below hE (Nat.le_refl _)).wide (Nat.le_refl _) hE.size⟩ | exact ⟨A, c, e, hE.row (by decide) h⟩) | (obtain ⟨q, cs, e, h1, h2, h3⟩ := h; first | exact ⟨q, cs, (put_getD_ne _ _ _ _ (by decide)).trans e, h1, h2, h3.below hE h3.lt⟩ | (obtain ⟨cs', g1, g2⟩ := hE.box h3; exact ⟨q, cs', e, h1, g1.trans h2, g2⟩)) | (obtain ⟨q, A, c, e, h1, h2, h3⟩ := h; exact ⟨q, A, c, (put_getD_ne _ _ _ _ (by decide)).trans e, h1, h2.below hE h2.lt, (h3.below hE (Nat.le_refl _)).wide (Nat.le_refl _) hE.size⟩)
        · simp only at hE h ⊢; first | exact h | exact (put_getD_ne _ _ _ _ (by decide)).trans h | (obtain ⟨A, c, e, h⟩ := h; first | exact ⟨A, c, (put_getD_ne _ _ _ _ (by decide)).trans e, (h.below hE (Nat.le_refl _)).wide (Nat.le_refl _) hE.size⟩ | exact ⟨A, c, e, hE.row (by decide) h⟩) | (obtain ⟨q, cs, e, h1, h2, h3⟩ := h; first | exact ⟨q, cs, (put_getD_ne _ _ _ _ (by decide)).trans e, h1, h2, h3.below hE h3.lt⟩ | (obtain ⟨cs', g1, g2⟩ := hE.box h3; exact ⟨q, cs', e, h1, g1.trans h2, g2⟩)) | (obtain ⟨q, A, c, e, h1, h2, h3⟩ := h; exact ⟨q, A, c, (put_getD_ne _ _ _ _ (by decide)).trans e, h1, h2.below hE h2.lt, (h3.below hE (Nat.le_refl _)).wide (Nat.le_refl _) hE.size⟩)
        · simp only at hE h ⊢; first | exact h | exact (put_getD_ne _ _ _ _ (by decide)).trans h | (obtain ⟨A, c, e, h⟩ := h; first | exact ⟨A, c, (put_getD_ne _ _ _ _ (by decide)).trans e, (h.below hE (Nat.le_refl _)).wide (Nat.le_refl _) hE.size⟩ | exact ⟨A, c, e, hE.row (by decide) h⟩) | (obtain ⟨q, cs, e, h1, h2, h3⟩ := h; first | exact ⟨q, cs, (put_getD_ne _ _ _ _ (by decide)).trans e, h1, h2, h3.below hE h3.lt⟩ | (obtain ⟨cs', g1, g2⟩ := hE.box h3; exact ⟨q, cs', e, h1, g1.trans h2, g2⟩)) | (obtain ⟨q, A, c, e, h1, h2, h3⟩ := h; exact ⟨q, A, c, (put_getD_ne _ _ _ _ (by decide)).trans e, h1, h2.below hE h2.lt, (h3.below hE (Nat.le_refl _)).wide (Nat.le_refl _) hE.size⟩)
        · simp only at hE h ⊢; first | exact h | exact (put_getD_ne _ _ _ _ (by decide)).trans h | (obtain ⟨A, c, e, h⟩ := h; first | exact ⟨A, c, (put_getD_ne _ _ _ _ (by decide)).trans e, (h.below hE (Nat.le_refl _)).wide (Nat.le_refl _) hE.size⟩ | exact ⟨A, c, e, hE.row (by decide) h⟩) | (obtain ⟨q, cs, e, h1, h2, h3⟩ := h; first | exact ⟨q, cs, (put_getD_ne _ _ _ _ (by decide)).trans e, h1, h2, h3.below hE h3.lt⟩ | (obtain ⟨cs', g1, g2⟩ := hE.box h3; exact ⟨q, cs', e, h1, g1.trans h2, g2⟩)) | (obtain ⟨q, A, c, e, h1, h2, h3⟩ := h; exact ⟨q, A, c, (put_getD_ne _ _ _ _ (by decide)).trans e, h1, h2.below hE h2.lt, (h3.below hE (Nat.le_refl _)).wide (Nat.le_refl _) hE.size⟩)
        · simp only at hE h ⊢; first | exact h | exact (put_getD_ne _ _ _ _ (by decide)).trans h | (obtain ⟨A, c, e, h⟩ := h; first | exact ⟨A, c, (put_getD_ne _ _ _ _ (by decide)).trans e, (h.below hE (Nat.le_refl _)).wide (Nat.le_refl _) hE.size⟩ | exact ⟨A, c, e, hE.row (by decide) h⟩) | (obtain ⟨q, cs, e, h1, h2, h3⟩ := h; first | exact ⟨q, cs, (put_getD_ne _ _ _ _ (by decide)).trans e, h1, h2, h3.below hE h3.lt⟩ | (obtain ⟨cs', g1, g2⟩ := hE.box h3; exact ⟨q, cs', e, h1, g1.trans h2, g2⟩)) | (obtain ⟨q, A, c, e, h1, h2, h3⟩ := h; exact ⟨q, A, c, (put_getD_ne _ _ _ _ (by decide)).trans e, h1, h2.below hE h2.lt, (h3.below hE (Nat.le_refl _)).wide (Nat.le_refl _) hE.size⟩)
        · simp only at hE h ⊢; first | exact h | exact (put_getD_ne _ _ _ _ (by decide)).trans h | (obtain ⟨A, c, e, h⟩ := h; first | exact ⟨A, c, (put_getD_ne _ _ _ _ (by decide)).trans e, (h.below hE (Nat.le_refl _)).wide (Nat.le_refl _) hE.size⟩ | exact ⟨A, c, e, hE.row (by decide) h⟩) | (obtain ⟨q, cs, e, h1, h2, h3⟩ := h; first | exact ⟨q, cs, (put_getD_ne _ _ _ _ (by decide)).trans e, h1, h2, h3.below hE h3.lt⟩ | (obtain ⟨cs', g1, g2⟩ := hE.box h3; exact ⟨q, cs', e, h1, g1.trans h2, g2⟩)) | (obtain ⟨q, A, c, e, h1, h2, h3⟩ := h; exact ⟨q, A, c, (put_getD_ne _ _ _ _ (by decide)).trans e, h1, h2.below hE h2.lt, (h3.below hE (Nat.le_refl _)).wide (Nat.le_refl _) hE.size⟩)
        · simp only at hE h ⊢; first | exact h | exact (put_getD_ne _ _ _ _ (by decide)).trans h | (obtain ⟨A, c, e, h⟩ := h; first | exact ⟨A, c, (put_getD_ne _ _ _ _ (by decide)).trans e, (h.below hE (Nat.le_refl _)).wide (Nat.le_refl _) hE.size⟩ | exact ⟨A, c, e, hE.row (by decide) h⟩) | (obtain ⟨q, cs, e, h1, h2, h3⟩ := h; first | exact ⟨q, cs, (put_getD_ne _ _ _ _ (by decide)).trans e, h1, h2, h3.below hE h3.lt⟩ | (obtain ⟨cs', g1, g2⟩ := hE.box h3; exact ⟨q, cs', e, h1, g1.trans h2, g2⟩)) | (obtain ⟨q, A, c, e, h1, h2, h3⟩ := h; exact ⟨q, A, c, (put_getD_ne _ _ _ _ (by decide)).trans e, h1, h2.below hE h2.lt, (h3.below hE (Nat.le_refl _)).wide (Nat.le_refl _) hE.size⟩)
        · exact absurd rfl hij
        · exact absurd rfl (hdep _ rfl ⟨8, .data⟩ (by simp) rfl)
      · rcases hi with rfl | rfl | rfl | rfl | rfl | rfl | rfl | rfl | rfl | rfl
        · simp only at hE h ⊢; first | exact h | exact (put_getD_ne _ _ _ _ (by decide)).trans h | (obtain ⟨A, c, e, h⟩ := h; first | exact ⟨A, c, (put_getD_ne _ _ _ _ (by decide)).trans e, (h.below hE (Nat.le_refl _)).wide (Nat.le_refl _) hE.size⟩ | exact ⟨A, c, e, hE.row (by decide) h⟩) | (obtain ⟨q, cs, e, h1, h2, h3⟩ := h; first | exact ⟨q, cs, (put_getD_ne _ _ _ _ (by decide)).trans e, h1, h2, h3.below hE h3.lt⟩ | (obtain ⟨cs', g1, g2⟩ := hE.box h3; exact ⟨q, cs', e, h1, g1.trans h2, g2⟩)) | (obtain ⟨q, A, c, e, h1, h2, h3⟩ := h; exact ⟨q, A, c, (put_getD_ne _ _ _ _ (by decide)).trans e, h1, h2.below hE h2.lt, (h3.below hE (Nat.le_refl _)).wide (Nat.le_refl _) hE.size⟩)
        · simp only at hE h ⊢; first | exact h | exact (put_getD_ne _ _ _ _ (by decide)).trans h | (obtain ⟨A, c, e, h⟩ := h; first | exact ⟨A, c, (put_getD_ne _ _ _ _ (by decide)).trans e, (h.below hE (Nat.le_refl _)).wide (Nat.le_refl _) hE.size⟩ | exact ⟨A, c, e, hE.row (by decide) h⟩) | (obtain ⟨q, cs, e, h1, h2, h3⟩ := h; first | exact ⟨q, cs, (put_getD_ne _ _ _ _ (by decide)).trans e, h1, h2, h3.below hE h3.lt⟩ | (obtain ⟨cs', g1, g2⟩ := hE.box h3; exact ⟨q, cs', e, h1, g1.trans h2, g2⟩)) | (obtain ⟨q, A, c, e, h1, h2, h3⟩ := h; exact ⟨q, A, c, (put_getD_ne _ _ _ _ (by decide)).trans e, h1, h2.below hE h2.lt, (h3.below hE (Nat.le_refl _)).wide (Nat.le_refl _) hE.size⟩)
        · simp only at hE h ⊢; first | exact h | exact (put_getD_ne _ _ _ _ (by decide)).trans h | (obtain ⟨A, c, e, h⟩ := h; first | exact ⟨A, c, (put_getD_ne _ _ _ _ (by decide)).trans e, (h.below hE (Nat.le_refl _)).wide (Nat.le_refl _) hE.size⟩ | exact ⟨A, c, e, hE.row (by decide) h⟩) | (obtain ⟨q, cs, e, h1, h2, h3⟩ := h; first | exact ⟨q, cs, (put_getD_ne _ _ _ _ (by decide)).trans e, h1, h2, h3.below hE h3.lt⟩ | (obtain ⟨cs', g1, g2⟩ := hE.box h3; exact ⟨q, cs', e, h1, g1.trans h2, g2⟩)) | (obtain ⟨q, A, c, e, h1, h2, h3⟩ := h; exact ⟨q, A, c, (put_getD_ne _ _ _ _ (by decide)).trans e, h1, h2.below hE h2.lt, (h3.below hE (Nat.le_refl _)).wide (Nat.le_refl _) hE.size⟩)
        · simp only at hE h ⊢; first | exact h | exact (put_getD_ne _ _ _ _ (by decide)).trans h | (obtain ⟨A, c, e, h⟩ := h; first | exact ⟨A, c, (put_getD_ne _ _ _ _ (by decide)).trans e, (h.below hE (Nat.le_refl _)).wide (Nat.le_refl _) hE.size⟩ | exact ⟨A, c, e, hE.row (by decide) h⟩) | (obtain ⟨q, cs, e, h1, h2, h3⟩ := h; first | exact ⟨q, cs, (put_getD_ne _ _ _ _ (by decide)).trans e, h1, h2, h3.below hE h3.lt⟩ | (obtain ⟨cs', g1, g2⟩ := hE.box h3; exact ⟨q, cs', e, h1, g1.trans h2, g2⟩)) | (obtain ⟨q, A, c, e, h1, h2, h3⟩ := h; exact ⟨q, A, c, (put_getD_ne _ _ _ _ (by decide)).trans e, h1, h2.below hE h2.lt, (h3.below hE (Nat.le_refl _)).wide (Nat.le_refl _) hE.size⟩)
        · simp only at hE h ⊢; first | exact h | exact (put_getD_ne _ _ _ _ (by decide)).trans h | (obtain ⟨A, c, e, h⟩ := h; first | exact ⟨A, c, (put_getD_ne _ _ _ _ (by decide)).trans e, (h.below hE (Nat.le_refl _)).wide (Nat.le_refl _) hE.size⟩ | exact ⟨A, c, e, hE.row (by decide) h⟩) | (obtain ⟨q, cs, e, h1, h2, h3⟩ := h; first | exact ⟨q, cs, (put_getD_ne _ _ _ _ (by decide)).trans e, h1, h2, h3.below hE h3.lt⟩ | (obtain ⟨cs', g1, g2⟩ := hE.box h3; exact ⟨q, cs', e, h1, g1.trans h2, g2⟩)) | (obtain ⟨q, A, c, e, h1, h2, h3⟩ := h; exact ⟨q, A, c, (put_getD_ne _ _ _ _ (by decide)).trans e, h1, h2.below hE h2.lt, (h3.below hE (Nat.le_refl _)).wide (Nat.le_refl _) hE.size⟩)
        · simp only at hE h ⊢; first | exact h | exact (put_getD_ne _ _ _ _ (by decide)).trans h | (obtain ⟨A, c, e, h⟩ := h; first | exact ⟨A, c, (put_getD_ne _ _ _ _ (by decide)).trans e, (h.below hE (Nat.le_refl _)).wide (Nat.le_refl _) hE.size⟩ | exact ⟨A, c, e, hE.row (by decide) h⟩) | (obtain ⟨q, cs, e, h1, h2, h3⟩ := h; first | exact ⟨q, cs, (put_getD_ne _ _ _ _ (by decide)).trans e, h1, h2, h3.below hE h3.lt⟩ | (obtain ⟨cs', g1, g2⟩ := hE.box h3; exact ⟨q, cs', e, h1, g1.trans h2, g2⟩)) | (obtain ⟨q, A, c, e, h1, h2, h3⟩ := h; exact ⟨q, A, c, (put_getD_ne _ _ _ _ (by decide)).trans e, h1, h2.below hE h2.lt, (h3.below hE (Nat.le_refl _)).wide (Nat.le_refl _) hE.size⟩)
        · simp only at hE h ⊢; first | exact h | exact (put_getD_ne _ _ _ _ (by decide)).trans h | (obtain ⟨A, c, e, h⟩ := h; first | exact ⟨A, c, (put_getD_ne _ _ _ _ (by decide)).trans e, (h.below hE (Nat.le_refl _)).wide (Nat.le_refl _) hE.size⟩ | exact ⟨A, c, e, hE.row (by decide) h⟩) | (obtain ⟨q, cs, e, h1, h2, h3⟩ := h; first | exact ⟨q, cs, (put_getD_ne _ _ _ _ (by decide)).trans e, h1, h2, h3.below hE h3.lt⟩ | (obtain ⟨cs', g1, g2⟩ := hE.box h3; exact ⟨q, cs', e, h1, g1.trans h2, g2⟩)) | (obtain ⟨q, A, c, e, h1, h2, h3⟩ := h; exact ⟨q, A, c, (put_getD_ne _ _ _ _ (by decide)).trans e, h1, h2.below hE h2.lt, (h3.below hE (Nat.le_refl _)).wide (Nat.le_refl _) hE.size⟩)
        · simp only at hE h ⊢; first | exact h | exact (put_getD_ne _ _ _ _ (by decide)).trans h | (obtain ⟨A, c, e, h⟩ := h; first | exact ⟨A, c, (put_getD_ne _ _ _ _ (by decide)).trans e, (h.below hE (Nat.le_refl _)).wide (Nat.le_refl _) hE.size⟩ | exact ⟨A, c, e, hE.row (by decide) h⟩) | (obtain ⟨q, cs, e, h1, h2, h3⟩ := h; first | exact ⟨q, cs, (put_getD_ne _ _ _ _ (by decide)).trans e, h1, h2, h3.below hE h3.lt⟩ | (obtain ⟨cs', g1, g2⟩ := hE.box h3; exact ⟨q, cs', e, h1, g1.trans h2, g2⟩)) | (obtain ⟨q, A, c, e, h1, h2, h3⟩ := h; exact ⟨q, A, c, (put_getD_ne _ _ _ _ (by decide)).trans e, h1, h2.below hE h2.lt, (h3.below hE (Nat.le_refl _)).wide (Nat.le_refl _) hE.size⟩)
        · simp only at hE h ⊢; first | exact h | exact (put_getD_ne _ _ _ _ (by decide)).trans h | (obtain ⟨A, c, e, h⟩ := h; first | exact ⟨A, c, (put_getD_ne _ _ _ _ (by decide)).trans e, (h.below hE (Nat.le_refl _)).wide (Nat.le_refl _) hE.size⟩ | exact ⟨A, c, e, hE.row (by decide) h⟩) | (obtain ⟨q, cs, e, h1, h2, h3⟩ := h; first | exact ⟨q, cs, (put_getD_ne _ _ _ _ (by decide)).trans e, h1, h2, h3.below hE h3.lt⟩ | (obtain ⟨cs', g1, g2⟩ := hE.box h3; exact ⟨q, cs', e, h1, g1.trans h2, g2⟩)) | (obtain ⟨q, A, c, e, h1, h2, h3⟩ := h; exact ⟨q, A, c, (put_getD_ne _ _ _ _ (by decide)).trans e, h1, h2.below hE h2.lt, (h3.below hE (Nat.le_refl _)).wide (Nat.le_refl _) hE.size⟩)
        · exact absurd rfl hij
    · intro j o hj ho a' w' hC hsame hdep
      have hz : w12.heap.size ≤ w'.heap.size := hC.size
      simp only [List.mem_cons, List.not_mem_nil, or_false] at hj
      rcases hj with rfl | rfl | rfl | rfl | rfl | rfl | rfl | rfl | rfl | rfl
      all_goals obtain rfl := Option.some.inj ho
      · have hs : a'.tmps.getD 2 undef = .pointer (some ⟨w.heap.size, 0, none⟩) := hsame 2 (by rfl)
        have zz : ∀ o, w'.cell? ⟨w.heap.size, o, none⟩ = _ := fun o => (hC.cell (p := ⟨w.heap.size, o, none⟩) (by show w.heap.size < w12.heap.size; omega)).trans (ya12 o)
        refine wp_val (w2 := w') ((.agg #[.slice A l.length c, .int .i64 s])) (fun K hK => ?_) ⟨_, rfl, hC, Below.refl _ _, fun b hb _ => hb 85 rfl⟩
        clear hsame hdep
        unfold Oper.wp
        simp [execOp, Act.eval, hs, go_sem, zz]
        exact hK
      · have e1 : a'.tmps.getD 85 undef = (.agg #[.slice A l.length c, .int .i64 s]) := hdep ⟨0, .data⟩ (by simp) rfl
        have hr : RdL headC 6 w' w'.heap.size A l.length c l := (((HL.out.below B12.out (Nat.le_refl _)).more B12.out.size).below hC (Nat.le_refl _)).more hz
        refine wp_call (fun u w2 => ∃ A c, u = (.agg #[.slice A l.length c, .int .i64 s]) ∧ OwnL headC 6 34 w2 w'.heap.size w2.heap.size A l.length c l ∧ Below w'.heap.size w' w2) (fun K hK => ?_) ?_
        · clear hsame hdep
          unfold Oper.wp
          simp [execOp, Act.eval, e1, go_sem]
          refine (toStore_any s A l.length c l _ hr (by omega)).mono ?_
          rintro e w3 ⟨A7, n7, c7, rfl, ho3, hb3⟩
          obtain rfl : l.length = n7 := ho3.1
          exact hK _ _ ⟨A7, c7, rfl, ho3, hb3⟩
        · rintro u w3 ⟨A7, c7, rfl, ho3, hb3⟩
          exact ⟨_, rfl, hC.trans (hb3.mono hz), hb3, fun b hb _ => ⟨A7, c7, hb 86 rfl, ho3.wide hz (Nat.le_refl _)⟩⟩
      · have hs : a'.tmps.getD 3 undef = .pointer (some ⟨w.heap.size + 1, 0, none⟩) := hsame 3 (by rfl)
        have zz : ∀ o, w'.cell? ⟨w.heap.size + 1, o, none⟩ = _ := fun o => (hC.cell (p := ⟨w.heap.size + 1, o, none⟩) (by show w.heap.size + 1 < w12.heap.size; omega)).trans (yv012 o)
        refine wp_val (w2 := w') (.agg #[.int .i64 v.h, .int .i64 v.t, .string v.last, .string v.vals, .string v.next, .string v.data]) (fun K hK => ?_) ⟨_, rfl, hC, Below.refl _ _, fun b hb _ => hb 87 rfl⟩
        clear hsame hdep
        unfold Oper.wp
        simp [execOp, Act.eval, hs, go_sem, zz]
        exact hK
      · have e1 : a'.tmps.getD 87 undef = .agg #[.int .i64 v.h, .int .i64 v.t, .string v.last, .string v.vals, .string v.next, .string v.data] := hdep ⟨2, .data⟩ (by simp) rfl
        refine wp_call (fun u w2 => u = .agg #[.int .i64 v.h, .int .i64 v.t, .string v.last, .string v.vals, .string v.next, .string v.data] ∧ Below w'.heap.size w' w2) (fun K hK => ?_) ?_
        · clear hsame hdep
          unfold Oper.wp
          simp [execOp, Act.eval, e1, go_sem]
          refine (toHeader_any v.h v.t v.last v.vals v.next v.data _).mono ?_
          rintro e w3 ⟨rfl, hb3⟩
          exact hK _ _ ⟨rfl, hb3⟩
        · rintro u w3 ⟨rfl, hb3⟩
          exact ⟨_, rfl, hC.trans (hb3.mono hz), hb3, fun b hb _ => hb 88 rfl⟩
      · obtain ⟨A6, c6, e1, ho⟩ := hdep ⟨1, .data⟩ (by simp) rfl
        have hr := ho.rd headC_len
        have e2 : a'.tmps.getD 88 undef = .agg #[.int .i64 v.h, .int .i64 v.t, .string v.last, .string v.vals, .string v.next, .string v.data] := hdep ⟨3, .data⟩ (by simp) rfl
        refine wp_call (fun u w2 => ∃ A c, u = .tuple #[(.agg #[.slice A lr.length c, .int .i64 s']), .bool kv] ∧ OwnL headC 6 34 w2 w'.heap.size w2.heap.size A lr.length c lr ∧ Below w'.heap.size w' w2) (fun K hK => ?_) ?_
        · clear hsame hdep
          unfold Oper.wp
          simp [execOp, Act.eval, e1, e2, go_sem]
          refine (HIM.out _ A6 c6 hr ((HT.out.below B12.out HT.out.pos).below hC (Nat.lt_of_lt_of_le HT.out.pos B12.out.size))).mono ?_
          rintro e w3 ⟨A7, c7, rfl, ho3, hb3⟩
          exact hK _ _ ⟨A7, c7, rfl, ho3, hb3⟩
        · rintro u w3 ⟨A7, c7, rfl, ho3, hb3⟩
          exact ⟨_, rfl, hC.trans (hb3.mono hz), hb3, fun b hb _ => ⟨A7, c7, hb 89 rfl, ho3.wide hz (Nat.le_refl _)⟩⟩
      · obtain ⟨A7, c7, e1, ho⟩ := hdep ⟨4, .data⟩ (by simp) rfl
        refine wp_val (w2 := w') (.tuple #[(.agg #[.slice A7 lr.length c7, .int .i64 s']), .bool kv]) (fun K hK => ?_) ⟨_, rfl, hC, Below.refl _ _, fun b hb _ => ⟨A7, c7, hb 84 rfl, ho⟩⟩
        clear hsame hdep
        unfold Oper.wp
        simp [execOp, Act.eval, e1, go_sem]
        exact hK
      · obtain ⟨A7, c7, e1, ho⟩ := hdep ⟨5, .data⟩ (by simp) rfl
        refine wp_val (w2 := w') ((.agg #[.slice A7 lr.length c7, .int .i64 s'])) (fun K hK => ?_) ⟨_, rfl, hC, Below.refl _ _, fun b hb _ => ⟨A7, c7, hb 90 rfl, ho⟩⟩
        clear hsame hdep
        unfold Oper.wp
        simp [execOp, Act.eval, e1, go_sem]
        exact hK
      · obtain ⟨A7, c7, e1, ho⟩ := hdep ⟨5, .data⟩ (by simp) rfl
        refine wp_val (w2 := w') (.bool kv) (fun K hK => ?_) ⟨_, rfl, hC, Below.refl _ _, fun b hb _ => hb 91 rfl⟩
        clear hsame hdep
        unfold Oper.wp
        simp [execOp, Act.eval, e1, go_sem]
        exact hK
      · refine wp_val (w2 := w'.alloc (.cells #[.slice none 0 0, .int .i64 0] 29)) (.pointer (some ⟨w'.heap.size, 0, none⟩)) (fun K hK => ?_) ⟨_, rfl, hC.alloc hz _, (Below.refl _ _).alloc (Nat.le_refl _) _, fun b hb _ => ⟨w'.heap.size, _, hb 14 rfl, hz, rfl, heap_alloc_new w' _⟩⟩
        clear hsame hdep
        unfold Oper.wp
        simp [execOp, Act.eval, go_sem]
        exact hK
      · obtain ⟨q0, cs0, e1, hq0, hsz, hblk⟩ := hdep ⟨8, .data⟩ (by simp) rfl
        obtain ⟨A7, c7, e2, ho⟩ := hdep ⟨6, .data⟩ (by simp) rfl
        obtain ⟨lc⟩ := cs0
        obtain ⟨k0, k1, rfl⟩ := list2 (l := lc) (by simpa using hsz)
        have f0 : w'.cell? ⟨q0, 0, none⟩ = some k0 := by rw [hblk.cell]; rfl
        have f1 : w'.cell? ⟨q0, 1, none⟩ = some k1 := by rw [hblk.cell]; rfl
        have ff := hblk.frozen
        obtain ⟨w9, hw9⟩ : ∃ z, z = ((w'.setCell ⟨q0, 0, none⟩ (.slice A7 lr.length c7)).setCell ⟨q0, 1, none⟩ (.int .i64 s')) := ⟨_, rfl⟩
        have hchg : Chg q0 (q0 + 1) w' w9 := by rw [hw9]; (repeat (first | with_reducible refine Chg.setCell ?_ (by first | exact Nat.le_refl _ | (simp; done) | (simp; omega)) (by first | (simp; done) | (simp; omega)) _ | with_reducible refine Chg.alloc ?_ _ | with_reducible refine Chg.drew ?_)); (with_reducible exact Chg.refl _ _ _)
        have hblk2 : Blk w9 q0 29 #[.slice A7 lr.length c7, .int .i64 s'] := by
          rw [hw9]
          have hb := ((hblk.set_ 0 (.slice A7 lr.length c7)).set_ 1 (.int .i64 s'))
          simp only [List.setIfInBounds_toArray, List.set_cons_zero, List.set_cons_succ] at hb
          exact hb
        have hturn := BoxTurn.of_blk hblk hblk2 rfl hchg
        have hown := hturn.row (by decide) ho
        have hcls := hC.trans (hchg.below hq0 hz)
        refine wp_val (w2 := w9) undef (fun K hK => ?_) ⟨_, rfl, hcls, hturn, fun b _ hb => ⟨q0, A7, c7, (hb 14 (by intro d h; cases h)).trans e1, hq0, hblk2, hown⟩⟩
        rw [hw9] at hK
        clear hsame hdep hchg hblk2 hturn hown hcls hw9
        unfold Oper.wp
        simp [execOp, Act.eval, e1, e2, go_sem, f0, f1, ff]
        exact hK
    · intro a' w' hC ha hP
      obtain ⟨q0, A7, c7, e1, hq0, hblk, ho⟩ := hP 9 (by simp)
      have e2 : a'.tmps.getD 91 undef = .bool kv := hP 7 (by simp)
      clear hP
      simp only [coreOps, List.filterMap_cons, List.filterMap_nil, List.getElem?_cons_zero, List.getElem?_cons_succ, fillA, slotOf, Act.put, e1, e2] at ha
      generalize a'.tmps.getD 85 undef = u85 at ha
      generalize a'.tmps.getD 86 undef = u86 at ha
      generalize a'.tmps.getD 87 undef = u87 at ha
      generalize a'.tmps.getD 88 undef = u88 at ha
      generalize a'.tmps.getD 89 undef = u89 at ha
      generalize a'.tmps.getD 84 undef = u84 at ha
      generalize a'.tmps.getD 90 undef = u90 at ha
      subst ha
      show wpAny _ _ _ _ 1 _ _ _
      refine wpAny_ready (rs := [10]) (by kernel_rfl) (by simp) ?_
      refine AllReady.cons rfl (fun K hK => ?_) AllReady.nil
      go_simp
      refine hK _ _ ?_
      clear hK K
      refine wpAny_done (by kernel_rfl) ?_ _
      go_wp2_with fail
      go_meet
      obtain ⟨ga, gb, ho, g1, g2, g3, g4⟩ := ho.apart hblk (by decide) hC.size
      exact ⟨q0, A7, c7, ga, gb, rfl, rfl, hq0, hblk, ho, g1, g2, g3, g4, hC⟩
  case rest =>
  obtain ⟨q12, Ah, ch, ga12, gb12, rfl, rfl, hq12, hblk, ho, hg112, hg212, hg312, hg412, hb⟩ := hcut
  have hs13 := hb.size
  have C13 := Lib.hid ((Chg.refl w.heap.size w.heap.size w12).below_trans hb)
  have ya13 : ∀ o, wc.cell? ⟨w.heap.size, o, none⟩ = _ := fun o => (C13.out.cell (by omega) (by omega)).trans (ya12 o)
  have yv013 : ∀ o, wc.cell? ⟨w.heap.size + 1, o, none⟩ = _ := fun o => (C13.out.cell (by omega) (by omega)).trans (yv012 o)
  have yw13 : ∀ o, wc.cell? ⟨q2, o, none⟩ = _ := fun o => (C13.out.cell (by omega) (by omega)).trans (yw12 o)
  have yx13 : ∀ o, wc.cell? ⟨w4.heap.size, o, none⟩ = _ := fun o => (C13.out.cell (by omega) (by omega)).trans (yx12 o)
  have yg13 : ∀ o, wc.cell? ⟨q5, o, none⟩ = _ := fun o => (C13.out.cell (by omega) (by omega)).trans (yg12 o)
  clear ya12 yv012 yw12 yx12 yg12
  have pa13 : w.heap.size < wc.heap.size := by omega
  have pv013 : w.heap.size + 1 < wc.heap.size := by omega
  have pw13 : q2 < wc.heap.size := by omega
  have px13 : w4.heap.size < wc.heap.size := by omega
  have pg13 : q5 < wc.heap.size := by omega
  have B13 : Hid (Below w.heap.size w wc) := B12.out.trans (C13.out.below (by omega) (by omega))
  have Op13 := Lib.hid (Op12.out.chg C13.out (by omega))
  have Og13 := Lib.hid (Og12.out.chg C13.out (by omega))
  clear Op12 Og12
  clear hb
  have Oh13 := Lib.hid ho
  clear ho
  obtain ⟨w13, hwc⟩ : ∃ q, q = wc := ⟨_, rfl⟩
  subst hwc
  have yh13 : ∀ o, w13.cell? ⟨q12, o, none⟩ = _ := fun o => hblk.cell o
  have ph13 : q12 < w13.heap.size := hblk.lt
  clear hblk
  go_wp2_with fail
  refine (eqStore_same s' Ah _ ch Ap cp lr _ (?_) (?_)).mono ?_
  · refine RdL.more (B := gb12) ?_ (by first | exact Nat.le_refl _ | (simp; done) | omega | (simp; omega))
    exact Oh13.out.rd headC_len
  · refine RdL.more (B := gb2) ?_ (by first | exact Nat.le_refl _ | (simp; done) | omega | (simp; omega))
    exact Op13.out.rd headC_len
  rintro e w14 ⟨rfl, hb⟩
  have hs14 := hb.size
  have C14 := Lib.hid ((Chg.refl w.heap.size w.heap.size w13).below_trans hb)
  have ya14 : ∀ o, w14.cell? ⟨w.heap.size, o, none⟩ = _ := fun o => (C14.out.cell (by omega) (by omega)).trans (ya13 o)
  have yv014 : ∀ o, w14.cell? ⟨w.heap.size + 1, o, none⟩ = _ := fun o => (C14.out.cell (by omega) (by omega)).trans (yv013 o)
  have yw14 : ∀ o, w14.cell? ⟨q2, o, none⟩ = _ := fun o => (C14.out.cell (by omega) (by omega)).trans (yw13 o)
  have yx14 : ∀ o, w14.cell? ⟨w4.heap.size, o, none⟩ = _ := fun o => (C14.out.cell (by omega) (by omega)).trans (yx13 o)
  have yg14 : ∀ o, w14.cell? ⟨q5, o, none⟩ = _ := fun o => (C14.out.cell (by omega) (by omega)).trans (yg13 o)
  have yh14 : ∀ o, w14.cell? ⟨q12, o, none⟩ = _ := fun o => (C14.out.cell (by omega) (by omega)).trans (yh13 o)
  clear ya13 yv013 yw13 yx13 yg13 yh13
  have pa14 : w.heap.size < w14.heap.size := by omega
  have pv014 : w.heap.size + 1 < w14.heap.size := by omega
  have pw14 : q2 < w14.heap.size := by omega
  have px14 : w4.heap.size < w14.heap.size := by omega
  have pg14 : q5 < w14.heap.size := by omega
  have ph14 : q12 < w14.heap.size := by omega
  have B14 : Hid (Below w.heap.size w w14) := B13.out.trans (C14.out.below (by omega) (by omega))
  have Op14 := Lib.hid (Op13.out.chg C14.out (by omega))
  have Og14 := Lib.hid (Og13.out.chg C14.out (by omega))
  have Oh14 := Lib.hid (Oh13.out.chg C14.out (by omega))
  clear Op13 Og13 Oh13
  clear hb
  go_wp2_with fail
  refine (heldStore_any s' Ag _ cg 1 _ (?_) (by decide) (by omega) (by decide)).mono ?_
  · refine RdL.more (B := gb5) ?_ (by first | exact Nat.le_refl _ | (simp; done) | omega | (simp; omega))
    exact Og14.out.rd headC_len
  rintro e w15 ⟨rfl, hb⟩
  have hs15 := hb.size
  have C15 := Lib.hid ((Chg.refl w.heap.size w.heap.size w14).below_trans hb)
  have ya15 : ∀ o, w15.cell? ⟨w.heap.size, o, none⟩ = _ := fun o => (C15.out.cell (by omega) (by omega)).trans (ya14 o)
  have yv015 : ∀ o, w15.cell? ⟨w.heap.size + 1, o, none⟩ = _ := fun o => (C15.out.cell (by omega) (by omega)).trans (yv014 o)
  have yw15 : ∀ o, w15.cell? ⟨q2, o, none⟩ = _ := fun o => (C15.out.cell (by omega) (by omega)).trans (yw14 o)
  have yx15 : ∀ o, w15.cell? ⟨w4.heap.size, o, none⟩ = _ := fun o => (C15.out.cell (by omega) (by omega)).trans (yx14 o)
  have yg15 : ∀ o, w15.cell? ⟨q5, o, none⟩ = _ := fun o => (C15.out.cell (by omega) (by omega)).trans (yg14 o)
  have yh15 : ∀ o, w15.cell? ⟨q12, o, none⟩ = _ := fun o => (C15.out.cell (by omega) (by omega)).trans (yh14 o)
  clear ya14 yv014 yw14 yx14 yg14 yh14
  have pa15 : w.heap.size < w15.heap.size := by omega
  have pv015 : w.heap.size + 1 < w15.heap.size := by omega
  have pw15 : q2 < w15.heap.size := by omega
  have px15 : w4.heap.size < w15.heap.size := by omega
  have pg15 : q5 < w15.heap.size := by omega
  have ph15 : q12 < w15.heap.size := by omega
  have B15 : Hid (Below w.heap.size w w15) := B14.out.trans (C15.out.below (by omega) (by omega))
  have Op15 := Lib.hid (Op14.out.chg C15.out (by omega))
  have Og15 := Lib.hid (Og14.out.chg C15.out (by omega))
  have Oh15 := Lib.hid (Oh14.out.chg C15.out (by omega))
  clear Op14 Og14 Oh14
  clear hb
  go_wp2_with fail
  go_ret
  exact ⟨rfl, B15.out⟩

set_option maxRecDepth 100000 in
set_option maxHeartbeats 2000000 in
theorem ExactStoreAdd_lifted (os : Os) (started : os.Started) (H : Type) (enc : TypeId × Value → H) :
    ReturnsInHanded {} Tryd.checked os 7 .any (fun w args => (Rows.fnExactStoreAddSpec.pre enc Tryd.prog Tryd.f7 Rows.fnExactStoreAddRow.domain false w args ∧ laidMet Tryd.prog Rows.fnExactStoreAddRow.laid w) ∧ sizedMet enc Tryd.prog Tryd.f7 (OpenSpec.ofChange Rows.fnExactStoreAddSpec) false w args)
      (Rows.fnExactStoreAddSpec.post enc Tryd.prog Tryd.f7 false true false false) := by
  refine returnsInHanded_of_change_and (C := Tryd.checked) (X := fun w _ => laidMet Tryd.prog Rows.fnExactStoreAddRow.laid w) (fun _ _ _ hh h => h.of_heap hh) own started (by kernel_rfl) Tryd.func7
    (ChangeSpec.witness_at (enc := enc) (C := Tryd.checked) (os := os) (X := fun w _ => laidMet Tryd.prog Rows.fnExactStoreAddRow.laid w) false (tabWorld os) #[.agg #[.slice none 0 0, .int .i64 0], .agg #[.int .i64 0, .int .i64 0, .string ⟨#[]⟩, .string ⟨#[]⟩, .string ⟨#[]⟩, .string ⟨#[]⟩]] 8 rfl (by kernel_rfl) (by kernel_rfl) (by kernel_rfl) (by kernel_rfl) (by kernel_rfl) (tabWorld_met os _)) ?_
  intro W base args ds gs before hval0 hW hcnd _ hL _
  have hval : ∀ (j : Nat) t v, Tryd.f7.params[j]? = some t → args[j]? = some v → Value.okWide Tryd.prog W .any base t v := hval0
  have hW' := hW
  obtain ⟨p, q, hA0, hV, rfl, hfz, hnd⟩ := hW
  have hA : DataW.TrodAll enc Tryd.prog W 0 (fun _ => true) true Tryd.f7.params.toList args.toList ds p := hA0
  rw [Tryd.params7] at hA hval
  have ht := tab_of_laid hL
  obtain ⟨v0, vs0, d0, ds0, p0, q0, hargs, rfl, rfl, h0, r0⟩ := trodAll_cons hA
  obtain ⟨v1, vs1, d1, ds1, p1, q1, rfl, rfl, rfl, h1, r1⟩ := trodAll_cons r0
  obtain ⟨rfl, rfl, rfl⟩ := trodAll_nil r1
  obtain rfl : args = #[v0, v1] := by cases args; simp_all
  obtain ⟨cs, rfl, hlen, m, hf⟩ := agg_fields Tryd.underlying24 (hval 0 24 v0 rfl rfl) h0
  obtain ⟨c0, c1, rfl⟩ := list2 (hlen.trans (by kernel_rfl : Tryd.prog.cellsOf 24 = 2))
  obtain ⟨y0, g0⟩ := hf 0 _ rfl
  obtain ⟨y1, g1⟩ := hf 1 _ rfl
  obtain ⟨A, n, c, rfl, l, hl, hs⟩ := open_listP (Pr := fun x => x.last.size ≤ maxLen ∧ x.vals.size ≤ maxLen ∧ x.next.size ≤ maxLen ∧ x.data.size ≤ maxLen) Tryd.underlying22 (by kernel_rfl) (by decide) headC_len (fun cs y n h => head_el h) g0
  obtain ⟨a1, rfl, _, _⟩ := field_int Tryd.underlying3 g1
  obtain rfl : l.length = n := hl.1
  obtain ⟨es, rfl, elen, em, ef⟩ := agg_fields Tryd.underlying43 (hval 1 43 v1 rfl rfl) h1
  obtain ⟨e0, e1, e2, e3, e4, e5, rfl⟩ := list6 (elen.trans (by kernel_rfl : Tryd.prog.cellsOf 43 = 6))
  obtain ⟨x0, j0⟩ := ef 0 _ rfl
  obtain ⟨x1, j1⟩ := ef 1 _ rfl
  obtain ⟨x2, j2⟩ := ef 2 _ rfl
  obtain ⟨x3, j3⟩ := ef 3 _ rfl
  obtain ⟨x4, j4⟩ := ef 4 _ rfl
  obtain ⟨x5, j5⟩ := ef 5 _ rfl
  obtain ⟨b0, rfl, _, _⟩ := field_int Tryd.underlying3 j0
  obtain ⟨b1, rfl, _, _⟩ := field_int Tryd.underlying3 j1
  obtain ⟨b2, rfl, hv1⟩ := field_string Tryd.underlying9 j2
  obtain ⟨b3, rfl, hv2⟩ := field_string Tryd.underlying9 j3
  obtain ⟨b4, rfl, hv3⟩ := field_string Tryd.underlying9 j4
  obtain ⟨b5, rfl, hv4⟩ := field_string Tryd.underlying9 j5
  refine (ExactStoreAdd_walk a1 A c l ⟨b0, b1, b2, b3, b4, b5⟩ hv1 hv2 hv3 hv4 W hl hs ht).mono fun r W' ⟨hr, hb⟩ => ?_
  subst hr
  exact ⟨_, rfl, law_post1 (f := Tryd.f7) (tb := 4) (t := 88) rfl Tryd.underlying4 rfl (by kernel_rfl) (by kernel_rfl) (by kernel_rfl) (fun d => rfl) (fun d => rfl) (fun d => rfl) hW' hb⟩

theorem ExactStoreAdd_row : Rows.FnExactStoreAddSaid :=
  OpenClaim.holds_of_wide 7 Tryd.f7 rfl rfl rfl rfl rfl rfl rfl ⟨rfl, rfl, rfl, rfl, rfl⟩ rfl rfl rfl rfl rfl (by kernel_rfl) Tryd.func7 (by kernel_rfl)
    (of_decide_eq_true (by kernel_rfl)) (by unfold Func.isWrapper; first | (rw [if_pos (by decide +kernel)]; kernel_rfl) | (rw [if_neg (by decide +kernel)]; exact ⟨rfl, rfl⟩))
    (fun os started H enc _ => ExactStoreAdd_lifted os started H enc)

theorem ExactStoreAdd_holds : Rows.FnExactStoreAddCardSaid :=
  Claim7.holds_tied_plain_at .later [] [.data] true Rows.fnExactStoreAddCard.stood.harness false
    ExactStoreAdd_row (fun _ h => by cases h) (by kernel_rfl) (fun _ h => by cases h) fnExactStoreAdd_row_tie rfl ⟨rfl, rfl⟩ (by kernel_rfl) rfl
    (fun f fn hf hfn => by
      obtain rfl : f = 7 := Option.some.inj ((show Tryd.prog.funcNamed "loop.example/g00946/laws.FnExactStoreAdd" = some 7 by kernel_rfl).symm.trans hf) |>.symm
      obtain rfl : fn = Tryd.f7 := (Option.some.inj (Tryd.func7.symm.trans hfn)).symm
      exact ⟨by kernel_rfl, fun j t ht => by
        rw [Tryd.params7] at ht
        have h3 : t = 24 ∨ t = 43 := by
          rcases j with _ | _ | j
          · exact .inl (by simpa using ht.symm)
          · exact .inr (by simpa using ht.symm)
          · simp at ht
        rcases h3 with h3 | h3
        · subst h3
          exact (show Tryd.prog.wantsStandIn 24 = false by kernel_rfl)
        · subst h3
          exact (show Tryd.prog.wantsStandIn 43 = false by kernel_rfl)⟩)
    (by kernel_rfl)
#print axioms ExactStoreAdd_holds
end Go.Proofs.YtjdknaipmboekaaDoor
