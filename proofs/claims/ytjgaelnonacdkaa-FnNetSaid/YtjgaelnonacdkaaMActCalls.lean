/- NodeStart, NodeGet, NodeTime of the program (written by wip/actcalls.py). -/
import Derived.WalkKit
import Derived.WalkSpells
import Derived.WalkLawsBesides
import Derived.Lib.Hide
import Derived.Test.YtjgaelnonacdkaaG26
import Derived.Test.YtjgaelnonacdkaaG16
namespace Go.Proofs.Ytjgaelnonacdkaa
open Go.RowKit

theorem rows_zero (w : World) (P : Nat → Prop) (hP : ∀ q, P q → q < w.heap.size) (s : NodeS) : Rows w P none 0 none 0 ⟨s, [], []⟩ :=
  ⟨⟨rfl, .inl ⟨rfl, rfl, rfl⟩⟩, ⟨rfl, .inl ⟨rfl, rfl, rfl⟩⟩, fun _ _ e => (by cases e), fun _ _ _ e => (by cases e), fun _ _ _ e => (by cases e), hP⟩
theorem blk2 {w : World} {o1 : Obj} {cs : Array Value} {t : TypeId} : Blk ((w.alloc o1).alloc (.cells cs t)) (w.heap.size + 1) t cs := by
  have h := heap_alloc_new (w.alloc o1) (.cells cs t)
  rw [World.size_alloc] at h; exact h
theorem blk3 {w : World} {o1 o2 : Obj} {cs : Array Value} {t : TypeId} : Blk (((w.alloc o1).alloc o2).alloc (.cells cs t)) (w.heap.size + 2) t cs := by
  have h := heap_alloc_new ((w.alloc o1).alloc o2) (.cells cs t)
  rw [World.size_alloc, World.size_alloc] at h; exact h
/-- a whole node stored into a block -/
def fillN (w : World) (g : Nat) (A : Option Addr) (n c : Nat) (s : NodeS) : World := (((((((((w.setCell ⟨g, 0, none⟩ (.int .i64 s.me)).setCell ⟨g, 1, none⟩ (.int .i64 s.round)).setCell ⟨g, 2, none⟩ (.int .i64 s.step)).setCell ⟨g, 3, none⟩ (.int .i64 s.lv)).setCell ⟨g, 4, none⟩ (.int .i64 s.lr)).setCell ⟨g, 5, none⟩ (.int .i64 s.vv)).setCell ⟨g, 6, none⟩ (.int .i64 s.vr)).setCell ⟨g, 7, none⟩ (.int .i64 s.polka)).setCell ⟨g, 8, none⟩ (.int .i64 s.dec)).setCell ⟨g, 9, none⟩ (.slice A n c)
section
variable {P : Nat → Prop} {w a : World} {g n B : Nat} {A : Option Addr} {c : Nat} {s : NodeS}
theorem fillN_rows {A' B' : Option Addr} {c' d' : Nat} {x' : RunS} (h : Rows w P A' c' B' d' x') (hp : P g) : Rows (fillN w g A n c s) P A' c' B' d' x' := (((((((((h.keeps hp _).keeps hp _).keeps hp _).keeps hp _).keeps hp _).keeps hp _).keeps hp _).keeps hp _).keeps hp _).keeps hp _
theorem fillN_keep (h : Keep P a w) (hn : ¬ P g) : Keep P a (fillN w g A n c s) := (((((((((h.setCell hn _).setCell hn _).setCell hn _).setCell hn _).setCell hn _).setCell hn _).setCell hn _).setCell hn _).setCell hn _).setCell hn _
theorem fillN_below (h : Below B a w) (hg : B ≤ g) : Below B a (fillN w g A n c s) := (((((((((h.setCell hg _).setCell hg _).setCell hg _).setCell hg _).setCell hg _).setCell hg _).setCell hg _).setCell hg _).setCell hg _).setCell hg _
theorem fillN_size : (fillN w g A n c s).heap.size = w.heap.size := by unfold fillN; simp only [World.size_setCell]
end
/-- an acting node that has just been laid over a copy -/
theorem act_new {w1 w2 : World} {N : Nat} {A : Option Addr} {c : Nat} {s : NodeS} {l : List NMsgD} (ho : OwnL msgC 5 49 w2 w1.heap.size w2.heap.size A l.length c l) (hN : N ≤ w1.heap.size) (hs : w1.heap.size ≤ w2.heap.size) :
    ActAt (w2.alloc (.cells (actC ⟨s, l, []⟩ A c none 0) 125)) (fun q => q < N) w2.heap.size A c none 0 ⟨s, l, []⟩ := by
  have hl := OwnL.lt' (ho.wide (Nat.zero_le _) (Nat.le_refl _))
  have hge : ∀ a, A = some a → w1.heap.size ≤ a.block := fun a e => by subst e; exact (ho.block a.block rfl).1
  refine ⟨heap_alloc_new w2 _, by omega, ?_⟩
  refine ⟨(ho.below ((Below.refl _ _).alloc (Nat.le_refl _) _) (Nat.le_refl _)).wide (Nat.zero_le _) (by simp), ⟨rfl, .inl ⟨rfl, rfl, rfl⟩⟩, fun _ _ _ e => (by cases e), fun q a hq e => ?_, fun _ _ _ e => (by cases e), fun q hq => ?_⟩
  · have h1 := hl a e
    have h2 := hge a e
    rcases hq with hq | hq <;> omega
  · simp only [World.size_alloc]
    rcases hq with hq | hq <;> omega

set_option maxRecDepth 100000 in
set_option maxHeartbeats 8000000 in
theorem NodeStart_any (s : NodeS) (A : Option Addr) (c : Nat) (l : List NMsgD) (w : World) (hl : RdL msgC 5 w w.heap.size A l.length c l) :
    Calls Try.prog 76 #[.agg #[.int .i64 s.me, .int .i64 s.round, .int .i64 s.step, .int .i64 s.lv, .int .i64 s.lr, .int .i64 s.vv, .int .i64 s.vr, .int .i64 s.polka, .int .i64 s.dec, .slice A l.length c]] w (CallOut (fun q => q < w.heap.size) (startN s l) w) := by
  have HL := Lib.hid hl
  clear hl
  go_enter Try.func76, Try.ntmps76
  go_upto_region 1 with fail
  obtain ⟨w0, hw0⟩ : ∃ q, q = (w.alloc (.cells #[.int .i64 s.me, .int .i64 s.round, .int .i64 s.step, .int .i64 s.lv, .int .i64 s.lr, .int .i64 s.vv, .int .i64 s.vr, .int .i64 s.polka, .int .i64 s.dec, .slice A l.length c] 79)).alloc (.cells #[.int .i64 0, .int .i64 0, .int .i64 0, .int .i64 0, .int .i64 0, .int .i64 0, .int .i64 0, .int .i64 0, .int .i64 0, .slice none 0 0] 79) := ⟨_, rfl⟩
  rw [← hw0]
  have HB0 : Hid (Blk w0 w.heap.size 79 #[.int .i64 s.me, .int .i64 s.round, .int .i64 s.step, .int .i64 s.lv, .int .i64 s.lr, .int .i64 s.vv, .int .i64 s.vr, .int .i64 s.polka, .int .i64 s.dec, .slice A l.length c]) := by show Blk _ _ _ _; rw [hw0]; exact ((show Blk _ _ _ _ from heap_alloc_new w _).alloc _)
  skip
  have HZ0 : Hid (Blk w0 (w.heap.size + 1) 79 #[.int .i64 0, .int .i64 0, .int .i64 0, .int .i64 0, .int .i64 0, .int .i64 0, .int .i64 0, .int .i64 0, .int .i64 0, .slice none 0 0]) := by show Blk _ _ _ _; rw [hw0]; exact blk2
  have HW0 : Hid (Below w.heap.size w w0) := by show Below _ _ _; rw [hw0]; exact (by repeat (first | exact Below.refl _ _ | assumption | refine Below.drew ?_ | refine belN ?_ _ | refine Below.alloc ?_ (by first | exact Nat.le_refl _ | (simp; done) | (simp; omega) | omega) _ | refine Below.setCell ?_ (by first | exact Nat.le_refl _ | (simp; done) | (simp; omega) | omega) _ | refine Below.trans ?_ (Below.mono (by assumption) (by first | exact Nat.le_refl _ | (simp; done) | (simp; omega) | omega))))
  have hs0 : w0.heap.size = w.heap.size + 2 := by rw [hw0]; simp
  have HL0 := Lib.hid ((HL.out.below HW0.out (Nat.le_refl _)).more HW0.out.size)
  clear hw0
  have tb := HB0.out.cell
  have HS0 := Lib.hid hs0
  have hlt0 : w.heap.size + 1 < w0.heap.size := by omega
  have hltb0 : w.heap.size < w0.heap.size := by omega
  clear hs0
  go_wp2_with fail
  refine (NodeOk_any s A l.length c l _ HL0.out).mono ?_
  rintro e w1 ⟨rfl, hb1⟩
  have HW1 := Lib.hid (HW0.out.trans (hb1.mono HW0.out.size))
  have HB1 := Lib.hid (HB0.out.below hb1 hltb0)
  skip
  have HZ1 := Lib.hid (HZ0.out.below hb1 hlt0)
  have hs1 := hb1.size
  clear hb1 tb
  have tb := HB1.out.cell
  have tz := HZ1.out.cell
  have tzf := HZ1.out.frozen
  have hltb1 := HB1.out.lt
  have hlt1 := HZ1.out.lt
  cases hB : nodeB s l
  · have HE : Hid (startN s l = (⟨zeroNS, [], []⟩, false)) := by show _ = _; unfold startN; rw [hB]; rfl
    go_wp2
    refine bodyPost_ret (v := .tuple #[.agg #[.int .i64 0, .int .i64 0, .int .i64 0, .int .i64 0, .int .i64 0, .int .i64 0, .int .i64 0, .int .i64 0, .int .i64 0, .slice none 0 0], .slice none 0 0, .bool false]) (by simp [results, Try.results76, go_sem, tz]) rfl ⟨none, 0, none, 0, by rw [HE.out] <;> rfl, ?_, ?_⟩
    · rw [HE.out]
      exact rows_zero (fillN w1 (w.heap.size + 1) none 0 0 ⟨0, 0, 0, 0, 0, 0, 0, 0, 0⟩) _ (fun q hq => by rw [fillN_size]; have := HW1.out.size; omega) _
    · exact Keep.of_below (B := w.heap.size) (fillN_below (s := ⟨0, 0, 0, 0, 0, 0, 0, 0, 0⟩) (A := none) (n := 0) (c := 0) (g := w.heap.size + 1) HW1.out (by omega)) fun q hq => hq
  have HP := Lib.hid ((nodeB_iff s l).1 hB)
  have hlen := HP.out.len
  have hHB := Lib.hid hB
  clear hB
  go_wp2_with fail
  refine (copyNode_any s A c l _ ((HL.out.below HW1.out (Nat.le_refl _)).more HW1.out.size) (by omega)).mono ?_
  rintro e w2 ⟨A2, c2, rfl, ho, hb2⟩
  have hw2s := hb2.size
  have HO := Lib.hid ho
  have HB2 := Lib.hid (HB1.out.below hb2 hltb1)
  skip
  have HZ2 := Lib.hid (HZ1.out.below hb2 hlt1)
  have HW2 := Lib.hid (HW1.out.trans (hb2.mono HW1.out.size))
  clear ho hb2 tb tz tzf
  go_upto_region 4 with fail
  obtain ⟨w3, hw3⟩ : ∃ q, q = w2.alloc (.cells #[.int .i64 s.me, .int .i64 s.round, .int .i64 s.step, .int .i64 s.lv, .int .i64 s.lr, .int .i64 s.vv, .int .i64 s.vr, .int .i64 s.polka, .int .i64 s.dec, .slice A2 l.length c2, .slice none 0 0] 125) := ⟨_, rfl⟩
  rw [← hw3]
  have HX3 : Hid (ActAt w3 (fun q => q < w.heap.size + 2) w2.heap.size A2 c2 none 0 ⟨s, l, []⟩) := by show ActAt _ _ _ _ _ _ _ _; rw [hw3]; exact act_new HO.out (by have := HS0.out; omega) (by omega)
  have HB3 : Hid (Blk w3 w.heap.size 79 #[.int .i64 s.me, .int .i64 s.round, .int .i64 s.step, .int .i64 s.lv, .int .i64 s.lr, .int .i64 s.vv, .int .i64 s.vr, .int .i64 s.polka, .int .i64 s.dec, .slice A l.length c]) := by show Blk _ _ _ _; rw [hw3]; exact HB2.out.alloc _
  skip
  have HZ3 : Hid (Blk w3 (w.heap.size + 1) 79 #[.int .i64 0, .int .i64 0, .int .i64 0, .int .i64 0, .int .i64 0, .int .i64 0, .int .i64 0, .int .i64 0, .int .i64 0, .slice none 0 0]) := by show Blk _ _ _ _; rw [hw3]; exact HZ2.out.alloc _
  have HW3 : Hid (Below w.heap.size w w3) := by show Below _ _ _; rw [hw3]; exact HW2.out.alloc HW2.out.size _
  clear hw3
  have tb := HB3.out.cell
  have tz := HZ3.out.cell
  have tzf := HZ3.out.frozen
  have tg := HX3.out.cells
  have tgf := HX3.out.free
  have hltb3 := HB3.out.lt
  have hlt3 := HZ3.out.lt
  have hltg3 := HX3.out.lt
  have hRg : w.heap.size + 1 ≠ w2.heap.size := by have := HS0.out; omega
  have hgR : w2.heap.size ≠ w.heap.size + 1 := by omega
  cases hr : (s.round == -1)
  · have hr' : (s.round != -1) = true := by unfold bne; rw [hr]; rfl
    have HE : Hid (startN s l = (⟨s, l, []⟩, false)) := by show _ = _; unfold startN; rw [hHB.out, hr]; rfl
    go_wp2
    refine bodyPost_ret (v := .tuple #[.agg #[.int .i64 s.me, .int .i64 s.round, .int .i64 s.step, .int .i64 s.lv, .int .i64 s.lr, .int .i64 s.vv, .int .i64 s.vr, .int .i64 s.polka, .int .i64 s.dec, .slice A2 l.length c2], .slice none 0 0, .bool false]) (by simp [results, Try.results76, go_sem, tz]) rfl ⟨A2, c2, none, 0, by rw [HE.out] <;> rfl, ?_, ?_⟩
    · rw [HE.out]
      exact (fillN_rows (g := w.heap.size + 1) (A := A2) (n := l.length) (c := c2) (s := s) HX3.out.rows (.inl (by show w.heap.size + 1 < _; omega))).mono fun q hq => .inl (by show q < _; omega)
    · exact Keep.of_below (B := w.heap.size) (fillN_below (g := w.heap.size + 1) (A := A2) (n := l.length) (c := c2) (s := s) HW3.out (by omega)) fun q hq => hq
  have hr' : (s.round != -1) = false := by unfold bne; rw [hr]; rfl
  have HE : Hid (startN s l = (restR (startR ⟨s, l, []⟩ 0), true)) := by show _ = _; unfold startN; rw [hHB.out, hr]; rfl
  have hround : s.round < 0 := by rw [beq_iff_eq] at hr; omega
  have HS4 := Lib.hid (start_ok (x := ⟨s, l, []⟩) (r := 0) HP.out hround (by decide))
  have hso : (startR ⟨s, l, []⟩ 0).o.length ≤ 1 := by have := startR_o ⟨s, l, []⟩ 0; simpa using this
  clear hr
  go_wp2_with fail
  refine (start_any (fun q => q < w.heap.size + 2) w2.heap.size A2 c2 none 0 ⟨s, l, []⟩ 0 _ HX3.out (by show l.length ≤ 1000; omega) (by simp) (by decide) (by decide) HP.out.me).mono ?_
  rintro e w4 ⟨A4, c4, B4, d4, rfl, ha4, hk4⟩
  have HX4 := Lib.hid ha4
  have HZ4 := Lib.hid (hk4.blk (by show w.heap.size + 1 < _; omega) HZ3.out)
  have HK4 : Hid (Keep (fun q => q < w.heap.size) w w4) := (Keep.of_below HW3.out fun q hq => hq).trans (hk4.mono fun q hq => by show q < _; omega)
  clear ha4 hk4 tb tz tzf tg tgf
  go_wp2_with fail
  refine (rest_any (fun q => q < w.heap.size + 2) w2.heap.size _ _ _ _ (startR ⟨s, l, []⟩ 0) _ HX4.out HS4.out (by omega)).mono ?_
  rintro e w9 ⟨A9, c9, B9, d9, rfl, hr9, hk9⟩
  have HZ9 := Lib.hid (hk9.blk (by show w.heap.size + 1 < _; omega) HZ4.out)
  have tz := HZ9.out.cell
  have tzf := HZ9.out.frozen
  have hltz9 := HZ9.out.lt
  go_wp2
  refine bodyPost_ret (v := .tuple #[.agg #[.int .i64 (restR (startR ⟨s, l, []⟩ 0)).s.me, .int .i64 (restR (startR ⟨s, l, []⟩ 0)).s.round, .int .i64 (restR (startR ⟨s, l, []⟩ 0)).s.step, .int .i64 (restR (startR ⟨s, l, []⟩ 0)).s.lv, .int .i64 (restR (startR ⟨s, l, []⟩ 0)).s.lr, .int .i64 (restR (startR ⟨s, l, []⟩ 0)).s.vv, .int .i64 (restR (startR ⟨s, l, []⟩ 0)).s.vr, .int .i64 (restR (startR ⟨s, l, []⟩ 0)).s.polka, .int .i64 (restR (startR ⟨s, l, []⟩ 0)).s.dec, .slice A9 (restR (startR ⟨s, l, []⟩ 0)).l.length c9], .slice B9 (restR (startR ⟨s, l, []⟩ 0)).o.length d9, .bool true]) (by simp [results, Try.results76, go_sem, tz]) rfl ⟨A9, c9, B9, d9, by rw [HE.out] <;> rfl, ?_, ?_⟩
  · rw [HE.out]
    exact (fillN_rows (g := w.heap.size + 1) (A := A9) (n := (restR (startR ⟨s, l, []⟩ 0)).l.length) (c := c9) (s := (restR (startR ⟨s, l, []⟩ 0)).s) hr9 (by show w.heap.size + 1 < _; omega)).mono fun q hq => by show q < _; omega
  · exact fillN_keep (g := w.heap.size + 1) (A := A9) (n := (restR (startR ⟨s, l, []⟩ 0)).l.length) (c := c9) (s := (restR (startR ⟨s, l, []⟩ 0)).s) (HK4.out.trans (hk9.mono fun q hq => by show q < _; omega)) (by show ¬ (w.heap.size + 1 < _); omega)

set_option maxRecDepth 100000 in
set_option maxHeartbeats 8000000 in
theorem NodeGet_any (s : NodeS) (A : Option Addr) (c : Nat) (l : List NMsgD) (m : NMsgD) (w : World) (hl : RdL msgC 5 w w.heap.size A l.length c l) :
    Calls Try.prog 77 #[.agg #[.int .i64 s.me, .int .i64 s.round, .int .i64 s.step, .int .i64 s.lv, .int .i64 s.lr, .int .i64 s.vv, .int .i64 s.vr, .int .i64 s.polka, .int .i64 s.dec, .slice A l.length c], .agg #[.int .i64 m.k, .int .i64 m.r, .int .i64 m.v, .int .i64 m.p, .int .i64 m.f]] w (CallOut (fun q => q < w.heap.size) (getN s l m) w) := by
  have HL := Lib.hid hl
  clear hl
  go_enter Try.func77, Try.ntmps77
  go_upto_region 1 with fail
  obtain ⟨w0, hw0⟩ : ∃ q, q = ((w.alloc (.cells #[.int .i64 s.me, .int .i64 s.round, .int .i64 s.step, .int .i64 s.lv, .int .i64 s.lr, .int .i64 s.vv, .int .i64 s.vr, .int .i64 s.polka, .int .i64 s.dec, .slice A l.length c] 79)).alloc (.cells #[.int .i64 m.k, .int .i64 m.r, .int .i64 m.v, .int .i64 m.p, .int .i64 m.f] 49)).alloc (.cells #[.int .i64 0, .int .i64 0, .int .i64 0, .int .i64 0, .int .i64 0, .int .i64 0, .int .i64 0, .int .i64 0, .int .i64 0, .slice none 0 0] 79) := ⟨_, rfl⟩
  rw [← hw0]
  have HB0 : Hid (Blk w0 w.heap.size 79 #[.int .i64 s.me, .int .i64 s.round, .int .i64 s.step, .int .i64 s.lv, .int .i64 s.lr, .int .i64 s.vv, .int .i64 s.vr, .int .i64 s.polka, .int .i64 s.dec, .slice A l.length c]) := by show Blk _ _ _ _; rw [hw0]; exact ((show Blk _ _ _ _ from heap_alloc_new w _).alloc _).alloc _
  have HM0 : Hid (Blk w0 (w.heap.size + 1) 49 #[.int .i64 m.k, .int .i64 m.r, .int .i64 m.v, .int .i64 m.p, .int .i64 m.f]) := by show Blk _ _ _ _; rw [hw0]; exact blk2.alloc _
  have HZ0 : Hid (Blk w0 (w.heap.size + 2) 79 #[.int .i64 0, .int .i64 0, .int .i64 0, .int .i64 0, .int .i64 0, .int .i64 0, .int .i64 0, .int .i64 0, .int .i64 0, .slice none 0 0]) := by show Blk _ _ _ _; rw [hw0]; exact blk3
  have HW0 : Hid (Below w.heap.size w w0) := by show Below _ _ _; rw [hw0]; exact (by repeat (first | exact Below.refl _ _ | assumption | refine Below.drew ?_ | refine belN ?_ _ | refine Below.alloc ?_ (by first | exact Nat.le_refl _ | (simp; done) | (simp; omega) | omega) _ | refine Below.setCell ?_ (by first | exact Nat.le_refl _ | (simp; done) | (simp; omega) | omega) _ | refine Below.trans ?_ (Below.mono (by assumption) (by first | exact Nat.le_refl _ | (simp; done) | (simp; omega) | omega))))
  have hs0 : w0.heap.size = w.heap.size + 3 := by rw [hw0]; simp
  have HL0 := Lib.hid ((HL.out.below HW0.out (Nat.le_refl _)).more HW0.out.size)
  clear hw0
  have tb := HB0.out.cell
  have HS0 := Lib.hid hs0
  have hlt0 : w.heap.size + 2 < w0.heap.size := by omega
  have hltb0 : w.heap.size < w0.heap.size := by omega
  clear hs0
  go_wp2_with fail
  refine (NodeOk_any s A l.length c l _ HL0.out).mono ?_
  rintro e w1 ⟨rfl, hb1⟩
  have HW1 := Lib.hid (HW0.out.trans (hb1.mono HW0.out.size))
  have HB1 := Lib.hid (HB0.out.below hb1 hltb0)
  have HM1 := Lib.hid (HM0.out.below hb1 (by omega))
  have HZ1 := Lib.hid (HZ0.out.below hb1 hlt0)
  have hs1 := hb1.size
  clear hb1 tb
  have tb := HB1.out.cell
  have tz := HZ1.out.cell
  have tzf := HZ1.out.frozen
  have hltb1 := HB1.out.lt
  have hlt1 := HZ1.out.lt
  cases hB : nodeB s l
  · have HE : Hid (getN s l m = (⟨zeroNS, [], []⟩, false)) := by show _ = _; unfold getN; rw [hB]; rfl
    go_wp2
    refine bodyPost_ret (v := .tuple #[.agg #[.int .i64 0, .int .i64 0, .int .i64 0, .int .i64 0, .int .i64 0, .int .i64 0, .int .i64 0, .int .i64 0, .int .i64 0, .slice none 0 0], .slice none 0 0, .bool false]) (by simp [results, Try.results77, go_sem, tz]) rfl ⟨none, 0, none, 0, by rw [HE.out] <;> rfl, ?_, ?_⟩
    · rw [HE.out]
      exact rows_zero (fillN w1 (w.heap.size + 2) none 0 0 ⟨0, 0, 0, 0, 0, 0, 0, 0, 0⟩) _ (fun q hq => by rw [fillN_size]; have := HW1.out.size; omega) _
    · exact Keep.of_below (B := w.heap.size) (fillN_below (s := ⟨0, 0, 0, 0, 0, 0, 0, 0, 0⟩) (A := none) (n := 0) (c := 0) (g := w.heap.size + 2) HW1.out (by omega)) fun q hq => hq
  have HP := Lib.hid ((nodeB_iff s l).1 hB)
  have hlen := HP.out.len
  have hHB := Lib.hid hB
  clear hB
  go_wp2_with fail
  refine (copyNode_any s A c l _ ((HL.out.below HW1.out (Nat.le_refl _)).more HW1.out.size) (by omega)).mono ?_
  rintro e w2 ⟨A2, c2, rfl, ho, hb2⟩
  have hw2s := hb2.size
  have HO := Lib.hid ho
  have HB2 := Lib.hid (HB1.out.below hb2 hltb1)
  have HM2 := Lib.hid (HM1.out.below hb2 HM1.out.lt)
  have HZ2 := Lib.hid (HZ1.out.below hb2 hlt1)
  have HW2 := Lib.hid (HW1.out.trans (hb2.mono HW1.out.size))
  clear ho hb2 tb tz tzf
  go_upto_region 4 with fail
  obtain ⟨w3, hw3⟩ : ∃ q, q = w2.alloc (.cells #[.int .i64 s.me, .int .i64 s.round, .int .i64 s.step, .int .i64 s.lv, .int .i64 s.lr, .int .i64 s.vv, .int .i64 s.vr, .int .i64 s.polka, .int .i64 s.dec, .slice A2 l.length c2, .slice none 0 0] 125) := ⟨_, rfl⟩
  rw [← hw3]
  have HX3 : Hid (ActAt w3 (fun q => q < w.heap.size + 3) w2.heap.size A2 c2 none 0 ⟨s, l, []⟩) := by show ActAt _ _ _ _ _ _ _ _; rw [hw3]; exact act_new HO.out (by have := HS0.out; omega) (by omega)
  have HB3 : Hid (Blk w3 w.heap.size 79 #[.int .i64 s.me, .int .i64 s.round, .int .i64 s.step, .int .i64 s.lv, .int .i64 s.lr, .int .i64 s.vv, .int .i64 s.vr, .int .i64 s.polka, .int .i64 s.dec, .slice A l.length c]) := by show Blk _ _ _ _; rw [hw3]; exact HB2.out.alloc _
  have HM3 : Hid (Blk w3 (w.heap.size + 1) 49 #[.int .i64 m.k, .int .i64 m.r, .int .i64 m.v, .int .i64 m.p, .int .i64 m.f]) := by show Blk _ _ _ _; rw [hw3]; exact HM2.out.alloc _
  have tm := HM3.out.cell
  have hltm3 := HM3.out.lt
  have HZ3 : Hid (Blk w3 (w.heap.size + 2) 79 #[.int .i64 0, .int .i64 0, .int .i64 0, .int .i64 0, .int .i64 0, .int .i64 0, .int .i64 0, .int .i64 0, .int .i64 0, .slice none 0 0]) := by show Blk _ _ _ _; rw [hw3]; exact HZ2.out.alloc _
  have HW3 : Hid (Below w.heap.size w w3) := by show Below _ _ _; rw [hw3]; exact HW2.out.alloc HW2.out.size _
  clear hw3
  have tb := HB3.out.cell
  have tz := HZ3.out.cell
  have tzf := HZ3.out.frozen
  have tg := HX3.out.cells
  have tgf := HX3.out.free
  have hltb3 := HB3.out.lt
  have hlt3 := HZ3.out.lt
  have hltg3 := HX3.out.lt
  have hRg : w.heap.size + 2 ≠ w2.heap.size := by have := HS0.out; omega
  have hgR : w2.heap.size ≠ w.heap.size + 2 := by omega
  have HL3 := Lib.hid ((HL.out.below HW3.out (Nat.le_refl _)).more HW3.out.size)
  cases g1 : okMsg m
  · have HE : Hid (getN s l m = (⟨s, l, []⟩, false)) := by show _ = _; unfold getN getBad; rw [hHB.out, g1]; rfl
    have g1' : msgB m.k m.r m.v m.p m.f = false := g1
    clear g1
    go_wp2_with fail
    refine (MsgOk_any m.k m.r m.v m.p m.f _).mono ?_
    rw [g1']
    rintro e w4 ⟨rfl, hb4⟩
    have HX4 := Lib.hid (HX3.out.below hb4)
    have HW4 := Lib.hid (HW3.out.trans (hb4.mono HW3.out.size))
    have tg4 := HX4.out.cells
    have tz4 := (HZ3.out.below hb4 hlt3).cell
    have tzf4 := (HZ3.out.below hb4 hlt3).frozen
    clear hb4 tg tgf tz tzf tb tm
    have tz := tz4
    go_wp2
    refine bodyPost_ret (v := .tuple #[.agg #[.int .i64 s.me, .int .i64 s.round, .int .i64 s.step, .int .i64 s.lv, .int .i64 s.lr, .int .i64 s.vv, .int .i64 s.vr, .int .i64 s.polka, .int .i64 s.dec, .slice A2 l.length c2], .slice none 0 0, .bool false]) (by simp [results, Try.results77, go_sem, tz]) rfl ⟨A2, c2, none, 0, by rw [HE.out] <;> rfl, ?_, ?_⟩
    · rw [HE.out]
      exact (fillN_rows (g := w.heap.size + 2) (A := A2) (n := l.length) (c := c2) (s := s) HX4.out.rows (.inl (by show w.heap.size + 2 < _; omega))).mono fun q hq => .inl (by show q < _; omega)
    · exact Keep.of_below (B := w.heap.size) (fillN_below (g := w.heap.size + 2) (A := A2) (n := l.length) (c := c2) (s := s) HW4.out (by omega)) fun q hq => hq
  have g1' : msgB m.k m.r m.v m.p m.f = true := g1
  go_wp2_with fail
  refine (MsgOk_any m.k m.r m.v m.p m.f _).mono ?_
  rw [g1']
  rintro e w4 ⟨rfl, hb4⟩
  have HX4 := Lib.hid (HX3.out.below hb4)
  have HW4 := Lib.hid (HW3.out.trans (hb4.mono HW3.out.size))
  have HB4 := Lib.hid (HB3.out.below hb4 hltb3)
  have HM4 := Lib.hid (HM3.out.below hb4 hltm3)
  have HZ4 := Lib.hid (HZ3.out.below hb4 hlt3)
  have hs4 := hb4.size
  clear hb4 tg tgf tz tzf tb tm g1'
  have tb := HB4.out.cell
  have tm := HM4.out.cell
  go_wp2_with fail
  refine (ContainsMsg_any A l.length c l m _ ((HL.out.below HW4.out (Nat.le_refl _)).more HW4.out.size)).mono ?_
  rintro e w5 ⟨rfl, hb5⟩
  have HX5 := Lib.hid (HX4.out.below hb5)
  have HW5 := Lib.hid (HW4.out.trans (hb5.mono HW4.out.size))
  have HB5 := Lib.hid (HB4.out.below hb5 HB4.out.lt)
  have HM5 := Lib.hid (HM4.out.below hb5 HM4.out.lt)
  have HZ5 := Lib.hid (HZ4.out.below hb5 HZ4.out.lt)
  clear hb5 tb tm
  have tb := HB5.out.cell
  have tm := HM5.out.cell
  have tz := HZ5.out.cell
  have tzf := HZ5.out.frozen
  have tg := HX5.out.cells
  have tgf := HX5.out.free
  have hltg5 := HX5.out.lt
  have hltm5 := HM5.out.lt
  have hltz5 := HZ5.out.lt
  cases g2 : hasB l m
  rotate_left
  · have HE : Hid (getN s l m = (⟨s, l, []⟩, false)) := by show _ = _; unfold getN getBad; rw [hHB.out, g1, g2]; rfl
    clear g1
    go_wp2
    refine bodyPost_ret (v := .tuple #[.agg #[.int .i64 s.me, .int .i64 s.round, .int .i64 s.step, .int .i64 s.lv, .int .i64 s.lr, .int .i64 s.vv, .int .i64 s.vr, .int .i64 s.polka, .int .i64 s.dec, .slice A2 l.length c2], .slice none 0 0, .bool false]) (by simp [results, Try.results77, go_sem, tz]) rfl ⟨A2, c2, none, 0, by rw [HE.out] <;> rfl, ?_, ?_⟩
    · rw [HE.out]
      exact (fillN_rows (g := w.heap.size + 2) (A := A2) (n := l.length) (c := c2) (s := s) HX5.out.rows (.inl (by show w.heap.size + 2 < _; omega))).mono fun q hq => .inl (by show q < _; omega)
    · exact Keep.of_below (B := w.heap.size) (fillN_below (g := w.heap.size + 2) (A := A2) (n := l.length) (c := c2) (s := s) HW5.out (by omega)) fun q hq => hq
  by_cases g3 : l.length = 90
  · have HE : Hid (getN s l m = (⟨s, l, []⟩, false)) := by show _ = _; unfold getN getBad; rw [hHB.out, g1, g2, g3]; rfl
    have g3' : (((l.length : Nat) : Int) == 90) = true := by rw [g3]; rfl
    have G3 := Lib.hid g3
    clear g1 g3
    go_wp2
    refine bodyPost_ret (v := .tuple #[.agg #[.int .i64 s.me, .int .i64 s.round, .int .i64 s.step, .int .i64 s.lv, .int .i64 s.lr, .int .i64 s.vv, .int .i64 s.vr, .int .i64 s.polka, .int .i64 s.dec, .slice A2 l.length c2], .slice none 0 0, .bool false]) (by simp [results, Try.results77, go_sem, tz]) rfl ⟨A2, c2, none, 0, by rw [HE.out] <;> rfl, ?_, ?_⟩
    · rw [HE.out]
      exact (fillN_rows (g := w.heap.size + 2) (A := A2) (n := l.length) (c := c2) (s := s) HX5.out.rows (.inl (by show w.heap.size + 2 < _; omega))).mono fun q hq => .inl (by show q < _; omega)
    · exact Keep.of_below (B := w.heap.size) (fillN_below (g := w.heap.size + 2) (A := A2) (n := l.length) (c := c2) (s := s) HW5.out (by omega)) fun q hq => hq
  have g3' : (((l.length : Nat) : Int) == 90) = false := beq_eq_false_iff_ne.2 (by omega)
  have hbad : getBad l m = false := by unfold getBad; rw [g1, g2, decide_eq_false (by omega : ¬ 90 ≤ l.length)]; rfl
  have HE : Hid (getN s l m = (restR ⟨s, l ++ [m], []⟩, true)) := by show _ = _; unfold getN; rw [hHB.out, hbad]; rfl
  have HP6 := Lib.hid (got_ok HP.out hbad)
  have G3 := Lib.hid g3
  clear g1 g3 hbad
  obtain ⟨i0, hi, hz0, hz1, hz2⟩ := info_parts infoMsg
  have hcm := HX5.out.rows.rl.2.2.2.1
  go_upto_region 6 with fail
  go_cut [43] (fun _ wx => ∃ A6 c6, ActAt wx (fun q => q < w.heap.size + 3) w2.heap.size A6 c6 none 0 ⟨s, l ++ [m], []⟩ ∧ Keep (fun q => q < w.heap.size + 3) w5 wx)
  case first =>
    go_region_law (first
      | ((refine step_app_rd _ rfl _ _ _ rfl 0 49 i0 _ 5 40 Try.underlying25 hi hz0 hz1 hz2 rfl (by decide) (.slice A2 l.length c2) l.length (l.flatMap msgC) rfl (by exact (HX5.out.rows.drew.alloc _).la.owns msgC_len) _ _ 1 1 _ rfl (by exact Rd.one5 w5.drew m _ (by first | rfl | simp)) (msgC_one _) (by unfold maxLen; omega) (by omega) (by first | (simp; done) | (simp; omega)) ?_)
         intro v2 w6 hown hg hat
         obtain ⟨A6, c6, rfl, hr6, hk6⟩ := (HX5.out.rows.drew.alloc _).appL (m := m) hown hg hat
         have HB6 : Hid (Blk w6 w2.heap.size 125 (actC ⟨s, l, []⟩ A2 c2 none 0)) := hk6.blk (.inr rfl) (HX5.out.blk.drew.alloc _)
         have HR6 := Lib.hid hr6
         have HK6 : Hid (Keep (fun q => q < w.heap.size + 3) w5 w6) := ((Keep.refl _ w5).drew.alloc HX5.out.ltP _).trans (hk6.mono fun q hq => .inl hq)
         clear hown hg hat hr6 hk6
         have tg6 := HB6.out.cell
         unfold actC at tg6
         have tf6 := HB6.out.frozen))
    all_goals
      go_wp2_with fail
      go_meet
      case rel =>
        refine ⟨A6, c6, ⟨?_, HX5.out.np, HR6.out.keeps (.inr rfl) _⟩, HK6.out.setCell HX5.out.np _⟩
        have h := HB6.out.set_ 9 (.slice A6 (l.length + 1) c6)
        simpa [actC] using h
  case rest =>
  obtain ⟨A6, c6, ha6, hk6⟩ := hcut
  obtain ⟨w6, hwc⟩ : ∃ q, q = wc := ⟨_, rfl⟩
  subst hwc
  have HX6 := Lib.hid ha6
  have HZ6 := Lib.hid (hk6.blk (by show w.heap.size + 2 < _; omega) HZ5.out)
  have HK6 : Hid (Keep (fun q => q < w.heap.size) w w6) := (Keep.of_below HW5.out fun q hq => hq).trans (hk6.mono fun q hq => by show q < _; omega)
  clear ha6 hk6 tb tm tz tzf tg tgf
  go_wp2_with fail
  refine (rest_any (fun q => q < w.heap.size + 3) w2.heap.size _ _ _ _ ⟨s, l ++ [m], []⟩ _ HX6.out HP6.out (by simp)).mono ?_
  rintro e w9 ⟨A9, c9, B9, d9, rfl, hr9, hk9⟩
  have HZ9 := Lib.hid (hk9.blk (by show w.heap.size + 2 < _; omega) HZ6.out)
  have tz := HZ9.out.cell
  have tzf := HZ9.out.frozen
  have hltz9 := HZ9.out.lt
  go_wp2
  refine bodyPost_ret (v := .tuple #[.agg #[.int .i64 (restR ⟨s, l ++ [m], []⟩).s.me, .int .i64 (restR ⟨s, l ++ [m], []⟩).s.round, .int .i64 (restR ⟨s, l ++ [m], []⟩).s.step, .int .i64 (restR ⟨s, l ++ [m], []⟩).s.lv, .int .i64 (restR ⟨s, l ++ [m], []⟩).s.lr, .int .i64 (restR ⟨s, l ++ [m], []⟩).s.vv, .int .i64 (restR ⟨s, l ++ [m], []⟩).s.vr, .int .i64 (restR ⟨s, l ++ [m], []⟩).s.polka, .int .i64 (restR ⟨s, l ++ [m], []⟩).s.dec, .slice A9 (restR ⟨s, l ++ [m], []⟩).l.length c9], .slice B9 (restR ⟨s, l ++ [m], []⟩).o.length d9, .bool true]) (by simp [results, Try.results77, go_sem, tz]) rfl ⟨A9, c9, B9, d9, by rw [HE.out] <;> rfl, ?_, ?_⟩
  · rw [HE.out]
    exact (fillN_rows (g := w.heap.size + 2) (A := A9) (n := (restR ⟨s, l ++ [m], []⟩).l.length) (c := c9) (s := (restR ⟨s, l ++ [m], []⟩).s) hr9 (by show w.heap.size + 2 < _; omega)).mono fun q hq => by show q < _; omega
  · exact fillN_keep (g := w.heap.size + 2) (A := A9) (n := (restR ⟨s, l ++ [m], []⟩).l.length) (c := c9) (s := (restR ⟨s, l ++ [m], []⟩).s) (HK6.out.trans (hk9.mono fun q hq => by show q < _; omega)) (by show ¬ (w.heap.size + 2 < _); omega)

set_option maxRecDepth 100000 in
set_option maxHeartbeats 8000000 in
theorem NodeTime_any (s : NodeS) (A : Option Addr) (c : Nat) (l : List NMsgD) (k : Int) (w : World) (hl : RdL msgC 5 w w.heap.size A l.length c l) :
    Calls Try.prog 78 #[.agg #[.int .i64 s.me, .int .i64 s.round, .int .i64 s.step, .int .i64 s.lv, .int .i64 s.lr, .int .i64 s.vv, .int .i64 s.vr, .int .i64 s.polka, .int .i64 s.dec, .slice A l.length c], .int .i64 k] w (CallOut (fun q => q < w.heap.size) (timeN s l k) w) := by
  have HL := Lib.hid hl
  clear hl
  go_enter Try.func78, Try.ntmps78
  go_upto_region 1 with fail
  obtain ⟨w0, hw0⟩ : ∃ q, q = (w.alloc (.cells #[.int .i64 s.me, .int .i64 s.round, .int .i64 s.step, .int .i64 s.lv, .int .i64 s.lr, .int .i64 s.vv, .int .i64 s.vr, .int .i64 s.polka, .int .i64 s.dec, .slice A l.length c] 79)).alloc (.cells #[.int .i64 0, .int .i64 0, .int .i64 0, .int .i64 0, .int .i64 0, .int .i64 0, .int .i64 0, .int .i64 0, .int .i64 0, .slice none 0 0] 79) := ⟨_, rfl⟩
  rw [← hw0]
  have HB0 : Hid (Blk w0 w.heap.size 79 #[.int .i64 s.me, .int .i64 s.round, .int .i64 s.step, .int .i64 s.lv, .int .i64 s.lr, .int .i64 s.vv, .int .i64 s.vr, .int .i64 s.polka, .int .i64 s.dec, .slice A l.length c]) := by show Blk _ _ _ _; rw [hw0]; exact ((show Blk _ _ _ _ from heap_alloc_new w _).alloc _)
  skip
  have HZ0 : Hid (Blk w0 (w.heap.size + 1) 79 #[.int .i64 0, .int .i64 0, .int .i64 0, .int .i64 0, .int .i64 0, .int .i64 0, .int .i64 0, .int .i64 0, .int .i64 0, .slice none 0 0]) := by show Blk _ _ _ _; rw [hw0]; exact blk2
  have HW0 : Hid (Below w.heap.size w w0) := by show Below _ _ _; rw [hw0]; exact (by repeat (first | exact Below.refl _ _ | assumption | refine Below.drew ?_ | refine belN ?_ _ | refine Below.alloc ?_ (by first | exact Nat.le_refl _ | (simp; done) | (simp; omega) | omega) _ | refine Below.setCell ?_ (by first | exact Nat.le_refl _ | (simp; done) | (simp; omega) | omega) _ | refine Below.trans ?_ (Below.mono (by assumption) (by first | exact Nat.le_refl _ | (simp; done) | (simp; omega) | omega))))
  have hs0 : w0.heap.size = w.heap.size + 2 := by rw [hw0]; simp
  have HL0 := Lib.hid ((HL.out.below HW0.out (Nat.le_refl _)).more HW0.out.size)
  clear hw0
  have tb := HB0.out.cell
  have HS0 := Lib.hid hs0
  have hlt0 : w.heap.size + 1 < w0.heap.size := by omega
  have hltb0 : w.heap.size < w0.heap.size := by omega
  clear hs0
  go_wp2_with fail
  refine (NodeOk_any s A l.length c l _ HL0.out).mono ?_
  rintro e w1 ⟨rfl, hb1⟩
  have HW1 := Lib.hid (HW0.out.trans (hb1.mono HW0.out.size))
  have HB1 := Lib.hid (HB0.out.below hb1 hltb0)
  skip
  have HZ1 := Lib.hid (HZ0.out.below hb1 hlt0)
  have hs1 := hb1.size
  clear hb1 tb
  have tb := HB1.out.cell
  have tz := HZ1.out.cell
  have tzf := HZ1.out.frozen
  have hltb1 := HB1.out.lt
  have hlt1 := HZ1.out.lt
  cases hB : nodeB s l
  · have HE : Hid (timeN s l k = (⟨zeroNS, [], []⟩, false)) := by show _ = _; unfold timeN; rw [hB]; rfl
    go_wp2
    refine bodyPost_ret (v := .tuple #[.agg #[.int .i64 0, .int .i64 0, .int .i64 0, .int .i64 0, .int .i64 0, .int .i64 0, .int .i64 0, .int .i64 0, .int .i64 0, .slice none 0 0], .slice none 0 0, .bool false]) (by simp [results, Try.results78, go_sem, tz]) rfl ⟨none, 0, none, 0, by rw [HE.out] <;> rfl, ?_, ?_⟩
    · rw [HE.out]
      exact rows_zero (fillN w1 (w.heap.size + 1) none 0 0 ⟨0, 0, 0, 0, 0, 0, 0, 0, 0⟩) _ (fun q hq => by rw [fillN_size]; have := HW1.out.size; omega) _
    · exact Keep.of_below (B := w.heap.size) (fillN_below (s := ⟨0, 0, 0, 0, 0, 0, 0, 0, 0⟩) (A := none) (n := 0) (c := 0) (g := w.heap.size + 1) HW1.out (by omega)) fun q hq => hq
  have HP := Lib.hid ((nodeB_iff s l).1 hB)
  have hlen := HP.out.len
  have hHB := Lib.hid hB
  clear hB
  go_wp2_with fail
  refine (copyNode_any s A c l _ ((HL.out.below HW1.out (Nat.le_refl _)).more HW1.out.size) (by omega)).mono ?_
  rintro e w2 ⟨A2, c2, rfl, ho, hb2⟩
  have hw2s := hb2.size
  have HO := Lib.hid ho
  have HB2 := Lib.hid (HB1.out.below hb2 hltb1)
  skip
  have HZ2 := Lib.hid (HZ1.out.below hb2 hlt1)
  have HW2 := Lib.hid (HW1.out.trans (hb2.mono HW1.out.size))
  clear ho hb2 tb tz tzf
  go_upto_region 4 with fail
  obtain ⟨w3, hw3⟩ : ∃ q, q = w2.alloc (.cells #[.int .i64 s.me, .int .i64 s.round, .int .i64 s.step, .int .i64 s.lv, .int .i64 s.lr, .int .i64 s.vv, .int .i64 s.vr, .int .i64 s.polka, .int .i64 s.dec, .slice A2 l.length c2, .slice none 0 0] 125) := ⟨_, rfl⟩
  rw [← hw3]
  have HX3 : Hid (ActAt w3 (fun q => q < w.heap.size + 2) w2.heap.size A2 c2 none 0 ⟨s, l, []⟩) := by show ActAt _ _ _ _ _ _ _ _; rw [hw3]; exact act_new HO.out (by have := HS0.out; omega) (by omega)
  have HB3 : Hid (Blk w3 w.heap.size 79 #[.int .i64 s.me, .int .i64 s.round, .int .i64 s.step, .int .i64 s.lv, .int .i64 s.lr, .int .i64 s.vv, .int .i64 s.vr, .int .i64 s.polka, .int .i64 s.dec, .slice A l.length c]) := by show Blk _ _ _ _; rw [hw3]; exact HB2.out.alloc _
  skip
  have HZ3 : Hid (Blk w3 (w.heap.size + 1) 79 #[.int .i64 0, .int .i64 0, .int .i64 0, .int .i64 0, .int .i64 0, .int .i64 0, .int .i64 0, .int .i64 0, .int .i64 0, .slice none 0 0]) := by show Blk _ _ _ _; rw [hw3]; exact HZ2.out.alloc _
  have HW3 : Hid (Below w.heap.size w w3) := by show Below _ _ _; rw [hw3]; exact HW2.out.alloc HW2.out.size _
  clear hw3
  have tb := HB3.out.cell
  have tz := HZ3.out.cell
  have tzf := HZ3.out.frozen
  have tg := HX3.out.cells
  have tgf := HX3.out.free
  have hltb3 := HB3.out.lt
  have hlt3 := HZ3.out.lt
  have hltg3 := HX3.out.lt
  have hRg : w.heap.size + 1 ≠ w2.heap.size := by have := HS0.out; omega
  have hgR : w2.heap.size ≠ w.heap.size + 1 := by omega
  cases g1 : (s.step == k)
  · have g1' : (s.step != k) = true := by unfold bne; rw [g1]; rfl
    have HE : Hid (timeN s l k = (⟨s, l, []⟩, false)) := by show _ = _; unfold timeN timeBad; rw [hHB.out, g1]; rfl
    go_wp2
    refine bodyPost_ret (v := .tuple #[.agg #[.int .i64 s.me, .int .i64 s.round, .int .i64 s.step, .int .i64 s.lv, .int .i64 s.lr, .int .i64 s.vv, .int .i64 s.vr, .int .i64 s.polka, .int .i64 s.dec, .slice A2 l.length c2], .slice none 0 0, .bool false]) (by simp [results, Try.results78, go_sem, tz]) rfl ⟨A2, c2, none, 0, by rw [HE.out] <;> rfl, ?_, ?_⟩
    · rw [HE.out]
      exact (fillN_rows (g := w.heap.size + 1) (A := A2) (n := l.length) (c := c2) (s := s) HX3.out.rows (.inl (by show w.heap.size + 1 < _; omega))).mono fun q hq => .inl (by show q < _; omega)
    · exact Keep.of_below (B := w.heap.size) (fillN_below (g := w.heap.size + 1) (A := A2) (n := l.length) (c := c2) (s := s) HW3.out (by omega)) fun q hq => hq
  have g1' : (s.step != k) = false := by unfold bne; rw [g1]; rfl
  have hk : s.step = k := beq_iff_eq.1 g1
  cases g2 : (s.round == -1)
  rotate_left
  · have HE : Hid (timeN s l k = (⟨s, l, []⟩, false)) := by show _ = _; unfold timeN timeBad; rw [hHB.out, g1, g2]; rfl
    clear hk
    go_wp2
    refine bodyPost_ret (v := .tuple #[.agg #[.int .i64 s.me, .int .i64 s.round, .int .i64 s.step, .int .i64 s.lv, .int .i64 s.lr, .int .i64 s.vv, .int .i64 s.vr, .int .i64 s.polka, .int .i64 s.dec, .slice A2 l.length c2], .slice none 0 0, .bool false]) (by simp [results, Try.results78, go_sem, tz]) rfl ⟨A2, c2, none, 0, by rw [HE.out] <;> rfl, ?_, ?_⟩
    · rw [HE.out]
      exact (fillN_rows (g := w.heap.size + 1) (A := A2) (n := l.length) (c := c2) (s := s) HX3.out.rows (.inl (by show w.heap.size + 1 < _; omega))).mono fun q hq => .inl (by show q < _; omega)
    · exact Keep.of_below (B := w.heap.size) (fillN_below (g := w.heap.size + 1) (A := A2) (n := l.length) (c := c2) (s := s) HW3.out (by omega)) fun q hq => hq
  cases g3 : decide (0 < s.dec)
  rotate_left
  · have HE : Hid (timeN s l k = (⟨s, l, []⟩, false)) := by show _ = _; unfold timeN timeBad; rw [hHB.out, g1, g2, g3]; rfl
    clear hk
    go_wp2
    refine bodyPost_ret (v := .tuple #[.agg #[.int .i64 s.me, .int .i64 s.round, .int .i64 s.step, .int .i64 s.lv, .int .i64 s.lr, .int .i64 s.vv, .int .i64 s.vr, .int .i64 s.polka, .int .i64 s.dec, .slice A2 l.length c2], .slice none 0 0, .bool false]) (by simp [results, Try.results78, go_sem, tz]) rfl ⟨A2, c2, none, 0, by rw [HE.out] <;> rfl, ?_, ?_⟩
    · rw [HE.out]
      exact (fillN_rows (g := w.heap.size + 1) (A := A2) (n := l.length) (c := c2) (s := s) HX3.out.rows (.inl (by show w.heap.size + 1 < _; omega))).mono fun q hq => .inl (by show q < _; omega)
    · exact Keep.of_below (B := w.heap.size) (fillN_below (g := w.heap.size + 1) (A := A2) (n := l.length) (c := c2) (s := s) HW3.out (by omega)) fun q hq => hq
  have hr0 : 0 ≤ s.round := by have := HP.out.round; rw [beq_eq_false_iff_ne] at g2; omega
  have HST := Lib.hid HP.out.step
  have tail : (k == 3 && s.round == 11) = true ∨ (k == 3 && s.round == 11) = false := by cases (k == 3 && s.round == 11) <;> simp
  rcases tail with g4 | g4
  · have HE : Hid (timeN s l k = (⟨s, l, []⟩, false)) := by show _ = _; unfold timeN timeBad; rw [hHB.out, g1, g2, g3, g4]; rfl
    rw [Bool.and_eq_true] at g4
    obtain ⟨g4, g5⟩ := g4
    clear hk
    go_wp2
    refine bodyPost_ret (v := .tuple #[.agg #[.int .i64 s.me, .int .i64 s.round, .int .i64 s.step, .int .i64 s.lv, .int .i64 s.lr, .int .i64 s.vv, .int .i64 s.vr, .int .i64 s.polka, .int .i64 s.dec, .slice A2 l.length c2], .slice none 0 0, .bool false]) (by simp [results, Try.results78, go_sem, tz]) rfl ⟨A2, c2, none, 0, by rw [HE.out] <;> rfl, ?_, ?_⟩
    · rw [HE.out]
      exact (fillN_rows (g := w.heap.size + 1) (A := A2) (n := l.length) (c := c2) (s := s) HX3.out.rows (.inl (by show w.heap.size + 1 < _; omega))).mono fun q hq => .inl (by show q < _; omega)
    · exact Keep.of_below (B := w.heap.size) (fillN_below (g := w.heap.size + 1) (A := A2) (n := l.length) (c := c2) (s := s) HW3.out (by omega)) fun q hq => hq
  have hbad : timeBad s k = false := by unfold timeBad; rw [g1, g2, g3, g4]; rfl
  have HE : Hid (timeN s l k = (restR (timeR ⟨s, l, []⟩ k), true)) := by show _ = _; unfold timeN; rw [hHB.out, hbad]; rfl
  have HG := Lib.hid g4
  have HOKT := Lib.hid (time_ok HP.out hbad)
  have hk1 : 1 ≤ k ∧ k ≤ 3 := by have := HST.out; omega
  clear hbad g4 hk
  rcases (by omega : k = 1 ∨ k = 2 ∨ k = 3) with rfl | rfl | rfl
  · have HS4 := Lib.hid (prevote_ok (x := ⟨s, l, []⟩) (v := 0) HP.out hr0 (by decide))
    have HE' : Hid (timeR ⟨s, l, []⟩ 1 = prevoteR ⟨s, l, []⟩ 0) := rfl
    have g4 : ((1 : Int) == 3) = false := rfl
    go_wp2_with fail
    refine (prevote_any (fun q => q < w.heap.size + 2) w2.heap.size A2 c2 none 0 ⟨s, l, []⟩ 0 true _ HX3.out (by show l.length ≤ 1000; omega) (by simp)).mono ?_
    rw [if_pos rfl]
    rintro e w4 ⟨A4, c4, B4, d4, rfl, ha4, hk4⟩
    have HX4 := Lib.hid ha4
    have HZ4 := Lib.hid (hk4.blk (by show w.heap.size + 1 < _; omega) HZ3.out)
    have HK4 : Hid (Keep (fun q => q < w.heap.size) w w4) := (Keep.of_below HW3.out fun q hq => hq).trans (hk4.mono fun q hq => by show q < _; omega)
    clear ha4 hk4 tb tz tzf tg tgf
    go_wp2_with fail
    refine (rest_any (fun q => q < w.heap.size + 2) w2.heap.size _ _ _ _ (prevoteR ⟨s, l, []⟩ 0) _ HX4.out HS4.out (by simp [prevoteR, setStep, sendR])).mono ?_
    rintro e w9 ⟨A9, c9, B9, d9, rfl, hr9, hk9⟩
    have HZ9 := Lib.hid (hk9.blk (by show w.heap.size + 1 < _; omega) HZ4.out)
    have tz := HZ9.out.cell
    have tzf := HZ9.out.frozen
    have hltz9 := HZ9.out.lt
    go_wp2
    refine bodyPost_ret (v := .tuple #[.agg #[.int .i64 (restR (prevoteR ⟨s, l, []⟩ 0)).s.me, .int .i64 (restR (prevoteR ⟨s, l, []⟩ 0)).s.round, .int .i64 (restR (prevoteR ⟨s, l, []⟩ 0)).s.step, .int .i64 (restR (prevoteR ⟨s, l, []⟩ 0)).s.lv, .int .i64 (restR (prevoteR ⟨s, l, []⟩ 0)).s.lr, .int .i64 (restR (prevoteR ⟨s, l, []⟩ 0)).s.vv, .int .i64 (restR (prevoteR ⟨s, l, []⟩ 0)).s.vr, .int .i64 (restR (prevoteR ⟨s, l, []⟩ 0)).s.polka, .int .i64 (restR (prevoteR ⟨s, l, []⟩ 0)).s.dec, .slice A9 (restR (prevoteR ⟨s, l, []⟩ 0)).l.length c9], .slice B9 (restR (prevoteR ⟨s, l, []⟩ 0)).o.length d9, .bool true]) (by simp [results, Try.results78, go_sem, tz]) rfl ⟨A9, c9, B9, d9, by rw [HE.out] <;> rfl, ?_, ?_⟩
    · rw [HE.out]
      exact (fillN_rows (g := w.heap.size + 1) (A := A9) (n := (restR (prevoteR ⟨s, l, []⟩ 0)).l.length) (c := c9) (s := (restR (prevoteR ⟨s, l, []⟩ 0)).s) hr9 (by show w.heap.size + 1 < _; omega)).mono fun q hq => by show q < _; omega
    · exact fillN_keep (g := w.heap.size + 1) (A := A9) (n := (restR (prevoteR ⟨s, l, []⟩ 0)).l.length) (c := c9) (s := (restR (prevoteR ⟨s, l, []⟩ 0)).s) (HK4.out.trans (hk9.mono fun q hq => by show q < _; omega)) (by show ¬ (w.heap.size + 1 < _); omega)
  · have HS4 := Lib.hid (precommit_ok (x := ⟨s, l, []⟩) (v := 0) HP.out hr0 (by decide))
    have HE' : Hid (timeR ⟨s, l, []⟩ 2 = precommitR ⟨s, l, []⟩ 0) := rfl
    go_wp2_with fail
    refine (send_any (fun q => q < w.heap.size + 2) w2.heap.size A2 c2 none 0 ⟨s, l, []⟩ 3 0 (-1) _ HX3.out (by show l.length ≤ 1000; omega) (by simp)).mono ?_
    rintro e w4 ⟨A4, c4, B4, d4, rfl, ha4, hk4⟩
    have HX4a := Lib.hid ha4
    have HZ4a := Lib.hid (hk4.blk (by show w.heap.size + 1 < _; omega) HZ3.out)
    have HK4a : Hid (Keep (fun q => q < w.heap.size) w w4) := (Keep.of_below HW3.out fun q hq => hq).trans (hk4.mono fun q hq => by show q < _; omega)
    clear ha4 hk4 tb tz tzf tg tgf
    have tg := HX4a.out.cells
    have tgf := HX4a.out.free
    go_upto_region 13 with fail
    obtain ⟨w5, hw5⟩ : ∃ q, q = w4.setCell ⟨w2.heap.size, 2, none⟩ (.int .i64 3) := ⟨_, rfl⟩
    rw [← hw5]
    have HX4 : Hid (ActAt w5 (fun q => q < w.heap.size + 2) w2.heap.size A4 c4 B4 d4 (precommitR ⟨s, l, []⟩ 0)) := by show ActAt _ _ _ _ _ _ _ _; rw [hw5]; exact HX4a.out.put 2 _ _ rfl
    have HZ4 : Hid (Blk w5 (w.heap.size + 1) 79 #[.int .i64 0, .int .i64 0, .int .i64 0, .int .i64 0, .int .i64 0, .int .i64 0, .int .i64 0, .int .i64 0, .int .i64 0, .slice none 0 0]) := by show Blk _ _ _ _; rw [hw5]; exact HZ4a.out.far hRg _
    have HK4 : Hid (Keep (fun q => q < w.heap.size) w w5) := by show Keep _ _ _; rw [hw5]; exact HK4a.out.setCell (by show ¬ (w2.heap.size < _); have := HW2.out.size; omega) _
    clear hw5 tg tgf
    go_wp2_with fail
    refine (rest_any (fun q => q < w.heap.size + 2) w2.heap.size _ _ _ _ (precommitR ⟨s, l, []⟩ 0) _ HX4.out HS4.out (by simp [precommitR, setStep, sendR])).mono ?_
    rintro e w9 ⟨A9, c9, B9, d9, rfl, hr9, hk9⟩
    have HZ9 := Lib.hid (hk9.blk (by show w.heap.size + 1 < _; omega) HZ4.out)
    have tz := HZ9.out.cell
    have tzf := HZ9.out.frozen
    have hltz9 := HZ9.out.lt
    go_wp2
    refine bodyPost_ret (v := .tuple #[.agg #[.int .i64 (restR (precommitR ⟨s, l, []⟩ 0)).s.me, .int .i64 (restR (precommitR ⟨s, l, []⟩ 0)).s.round, .int .i64 (restR (precommitR ⟨s, l, []⟩ 0)).s.step, .int .i64 (restR (precommitR ⟨s, l, []⟩ 0)).s.lv, .int .i64 (restR (precommitR ⟨s, l, []⟩ 0)).s.lr, .int .i64 (restR (precommitR ⟨s, l, []⟩ 0)).s.vv, .int .i64 (restR (precommitR ⟨s, l, []⟩ 0)).s.vr, .int .i64 (restR (precommitR ⟨s, l, []⟩ 0)).s.polka, .int .i64 (restR (precommitR ⟨s, l, []⟩ 0)).s.dec, .slice A9 (restR (precommitR ⟨s, l, []⟩ 0)).l.length c9], .slice B9 (restR (precommitR ⟨s, l, []⟩ 0)).o.length d9, .bool true]) (by simp [results, Try.results78, go_sem, tz]) rfl ⟨A9, c9, B9, d9, by rw [HE.out] <;> rfl, ?_, ?_⟩
    · rw [HE.out]
      exact (fillN_rows (g := w.heap.size + 1) (A := A9) (n := (restR (precommitR ⟨s, l, []⟩ 0)).l.length) (c := c9) (s := (restR (precommitR ⟨s, l, []⟩ 0)).s) hr9 (by show w.heap.size + 1 < _; omega)).mono fun q hq => by show q < _; omega
    · exact fillN_keep (g := w.heap.size + 1) (A := A9) (n := (restR (precommitR ⟨s, l, []⟩ 0)).l.length) (c := c9) (s := (restR (precommitR ⟨s, l, []⟩ 0)).s) (HK4.out.trans (hk9.mono fun q hq => by show q < _; omega)) (by show ¬ (w.heap.size + 1 < _); omega)
  · have hr11 : s.round < 11 := HOKT.out.2.2.2 rfl
    have g5 : (s.round == 11) = false := beq_eq_false_iff_ne.2 (by omega)
    have HS4 := Lib.hid (start_ok (x := ⟨s, l, []⟩) (r := s.round + 1) HP.out (by show s.round < s.round + 1; omega) (by omega))
    have hso : (startR ⟨s, l, []⟩ (s.round + 1)).o.length ≤ 1 := by have := startR_o ⟨s, l, []⟩ (s.round + 1); simpa using this
    have HE' : Hid (timeR ⟨s, l, []⟩ 3 = startR ⟨s, l, []⟩ (s.round + 1)) := rfl
    go_wp2_with fail
    refine (start_any (fun q => q < w.heap.size + 2) w2.heap.size A2 c2 none 0 ⟨s, l, []⟩ (s.round + 1) _ HX3.out (by show l.length ≤ 1000; omega) (by simp) (by omega) (by omega) HP.out.me).mono ?_
    rintro e w4 ⟨A4, c4, B4, d4, rfl, ha4, hk4⟩
    have HX4 := Lib.hid ha4
    have HZ4 := Lib.hid (hk4.blk (by show w.heap.size + 1 < _; omega) HZ3.out)
    have HK4 : Hid (Keep (fun q => q < w.heap.size) w w4) := (Keep.of_below HW3.out fun q hq => hq).trans (hk4.mono fun q hq => by show q < _; omega)
    clear ha4 hk4 tb tz tzf tg tgf
    go_wp2_with fail
    refine (rest_any (fun q => q < w.heap.size + 2) w2.heap.size _ _ _ _ (startR ⟨s, l, []⟩ (s.round + 1)) _ HX4.out HS4.out (by omega)).mono ?_
    rintro e w9 ⟨A9, c9, B9, d9, rfl, hr9, hk9⟩
    have HZ9 := Lib.hid (hk9.blk (by show w.heap.size + 1 < _; omega) HZ4.out)
    have tz := HZ9.out.cell
    have tzf := HZ9.out.frozen
    have hltz9 := HZ9.out.lt
    go_wp2
    refine bodyPost_ret (v := .tuple #[.agg #[.int .i64 (restR (startR ⟨s, l, []⟩ (s.round + 1))).s.me, .int .i64 (restR (startR ⟨s, l, []⟩ (s.round + 1))).s.round, .int .i64 (restR (startR ⟨s, l, []⟩ (s.round + 1))).s.step, .int .i64 (restR (startR ⟨s, l, []⟩ (s.round + 1))).s.lv, .int .i64 (restR (startR ⟨s, l, []⟩ (s.round + 1))).s.lr, .int .i64 (restR (startR ⟨s, l, []⟩ (s.round + 1))).s.vv, .int .i64 (restR (startR ⟨s, l, []⟩ (s.round + 1))).s.vr, .int .i64 (restR (startR ⟨s, l, []⟩ (s.round + 1))).s.polka, .int .i64 (restR (startR ⟨s, l, []⟩ (s.round + 1))).s.dec, .slice A9 (restR (startR ⟨s, l, []⟩ (s.round + 1))).l.length c9], .slice B9 (restR (startR ⟨s, l, []⟩ (s.round + 1))).o.length d9, .bool true]) (by simp [results, Try.results78, go_sem, tz]) rfl ⟨A9, c9, B9, d9, by rw [HE.out] <;> rfl, ?_, ?_⟩
    · rw [HE.out]
      exact (fillN_rows (g := w.heap.size + 1) (A := A9) (n := (restR (startR ⟨s, l, []⟩ (s.round + 1))).l.length) (c := c9) (s := (restR (startR ⟨s, l, []⟩ (s.round + 1))).s) hr9 (by show w.heap.size + 1 < _; omega)).mono fun q hq => by show q < _; omega
    · exact fillN_keep (g := w.heap.size + 1) (A := A9) (n := (restR (startR ⟨s, l, []⟩ (s.round + 1))).l.length) (c := c9) (s := (restR (startR ⟨s, l, []⟩ (s.round + 1))).s) (HK4.out.trans (hk9.mono fun q hq => by show q < _; omega)) (by show ¬ (w.heap.size + 1 < _); omega)
end Go.Proofs.Ytjgaelnonacdkaa
