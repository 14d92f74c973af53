/- DrawNetDo. (written by wip/fnnet.py) -/
import Derived.WalkKit
import Derived.WalkSpells
import Derived.WalkLawsBesides
import Derived.Lib.Hide
import Derived.Test.YtjgaelnonacdkaaMDrawNet
namespace Go.Proofs.Ytjgaelnonacdkaa
open Go.RowKit

def netZA : Array Value := #[.slice none 0 0, .slice none 0 0]
def NDoDrew (w : World) (e : Ending) (w' : World) : Prop :=
  ∃ (ln : List NodeD) (lp : List NMsgD) (A' : Option Addr) (c' : Nat) (P' : Option Addr) (d' lo : Nat) (a : ActD), e = .returned (.tuple #[.agg #[.slice A' ln.length c', .slice P' lp.length d'], .agg #[.int .i64 a.k, .int .i64 a.a, .int .i64 a.b, .int .i64 a.m.k, .int .i64 a.m.r, .int .i64 a.m.v, .int .i64 a.m.p, .int .i64 a.m.f]]) ∧ w.heap.size ≤ lo ∧ NetD w' lo A' c' P' d' ln lp ∧ Below w.heap.size w w'

theorem l17ActL_any (cb : Nat) (A : Option Addr) (n c : Nat) (lo hi : Nat) (Ap : Option Addr) (cp : Nat) (Pp : Option Addr) (pn dp : Nat) (ln : List NodeD) (w : World) (hc : Cur w cb A n c) (hcl : cb < lo) (hhi : hi ≤ w.heap.size) (h3 : ln.length = 3) (hp : pn ≤ 1048576) (hl : NodesOwn w lo hi Ap ln.length cp ln) :
    Calls Try.prog 53 #[.pointer (some ⟨cb, 0, none⟩), .agg #[.slice Ap ln.length cp, .slice Pp pn dp]] w (Drew cb A n c (fun v => ∃ a : ActD, v = .agg #[.int .i64 a.k, .int .i64 a.a, .int .i64 a.b, .int .i64 a.m.k, .int .i64 a.m.r, .int .i64 a.m.v, .int .i64 a.m.p, .int .i64 a.m.f]) w) :=
  l17Act_any cb A n c lo hi Ap cp Pp pn dp ln w hc hcl hhi h3 hp hl

set_option maxRecDepth 100000 in
set_option maxHeartbeats 4000000 in
theorem DrawNetDo_any (A : Option Addr) (n c : Nat) (l : List UInt8) (w : World) (hl : RdL octC 1 w w.heap.size A n c l) (hn : n ≤ 1048576) :
    Calls Try.prog 22 #[.slice A n c] w (NDoDrew w) := by
  have HL := Lib.hid hl
  clear hl
  go_enter Try.func22, Try.ntmps22
  go_wp2_with fail
  refine (l1New_any A n c l _ (by exact ((HL.out.alloc (Nat.le_refl _) _).alloc (by simp) _).more (by simp; omega)) hn).mono ?_
  rintro e w1 ⟨rfl, hu, hb⟩
  have hcb : ((w.alloc (.cells netZA 27)).alloc (.cells zeroAA 51)).heap.size = w.heap.size + 2 := by simp
  have hs1 : w.heap.size + 2 ≤ w1.heap.size := by have := hb.size; simpa using this
  have HR1 : Hid (Blk w1 w.heap.size 27 netZA) := ((show Blk (w.alloc (.cells netZA 27)) w.heap.size 27 netZA from heap_alloc_new w _).alloc _).below hb (by simp; omega)
  have HM1 : Hid (Blk w1 (w.heap.size + 1) 51 zeroAA) := by
    have h := heap_alloc_new (w.alloc (.cells netZA 27)) (.cells zeroAA 51)
    rw [World.size_alloc] at h
    exact (show Blk _ _ _ _ from h).below hb (by simp)
  have HB1 : Hid (Below w.heap.size w w1) := (((Below.refl _ _).alloc (Nat.le_refl _) _).alloc (by simp) _).trans (hb.mono (by simp; omega))
  have hu' : Cur w1 (w.heap.size + 2) A n c := by rw [← hcb]; exact hu
  have HU1 := Lib.hid hu'
  have hlt1 := hu'.lt
  unfold netZA zeroAA at hcb
  rw [hcb]
  clear hb hu hu' hcb
  go_wp2_with fail
  refine (l1SizeS_any A n c 60 _ hn (by decide)).mono ?_
  rintro e w' ⟨m0, rfl, hm0, hm1, rfl⟩
  go_wp2_with fail
  refine (l17Some_any (w.heap.size + 2) A n c m0 _ HU1.out (by omega)).mono ?_
  rintro e w2 ⟨ln, lp, A', c', P', d', rfl, hnd, hg, hu⟩
  have hs2 : w1.heap.size ≤ w2.heap.size := hg.size
  have HR2 : Hid (Blk w2 w.heap.size 27 netZA) := (hg.block _ HR1.out.lt (.inl (by omega))).trans HR1.out
  have HM2 : Hid (Blk w2 (w.heap.size + 1) 51 zeroAA) := (hg.block _ HM1.out.lt (.inl (by omega))).trans HM1.out
  have HB2 : Hid (Below w.heap.size w w2) := HB1.out.trans (hg.below (by omega) (by omega))
  have HU2 := Lib.hid hu
  have HD2 := Lib.hid hnd
  have H3 := Lib.hid hnd.n3
  have h3a : (3 : Int) ≤ ln.length := by have := hnd.n3; omega
  have h3b : (ln.length : Int) ≤ 3 := by have := hnd.n3; omega
  have h3c : ((ln.length : Int) != 3) = false := by have := hnd.n3; simp; omega
  have hp151 := hnd.p151
  clear hg hu hnd HR1 HM1 HB1 HU1
  go_upto_region 3 with fail
  obtain ⟨w3, hw3⟩ : ∃ q, q = w2.alloc (.cells #[.slice A' ln.length c', .slice P' lp.length d'] 27) := ⟨_, rfl⟩
  rw [← hw3]
  have HX3 : Hid (Blk w3 w2.heap.size 27 #[.slice A' ln.length c', .slice P' lp.length d']) := Lib.hid (by rw [hw3]; exact heap_alloc_new w2 _)
  have hb3 : Below w2.heap.size w2 w3 := by rw [hw3]; exact (Below.refl _ _).alloc (Nat.le_refl _) _
  have HR3 := Lib.hid (HR2.out.below hb3 (by omega))
  have HM3 := Lib.hid (HM2.out.below hb3 (by omega))
  have HB3 := Lib.hid (HB2.out.trans (hb3.mono (by omega)))
  have HU3 := Lib.hid (HU2.out.below hb3 (by omega) (Nat.le_refl _))
  have HD3 := Lib.hid (HD2.out.below hb3)
  have hs3 := HX3.out.lt
  clear hw3 hb3 HR2 HM2 HB2 HU2 HD2
  have tg := HX3.out.cell
  obtain ⟨hi, hhi, hno⟩ := HD3.out.nodes
  have HNO := Lib.hid hno
  clear hno
  have HT := Lib.hid (l17ActL_any (w.heap.size + 2) A n c w1.heap.size hi A' c' P' lp.length d' ln w3.drew HU3.out.drew (by omega) hhi H3.out (by omega) (HNO.out.chg ((Chg.refl 0 0 _).drew) (.inr (Nat.zero_le _))))
  go_upto_region 5 with fail
  go_region_with (go_at_call 53; (with_reducible refine HT.out.mono ?_); rintro e w4 ⟨v, rfl, ⟨a, rfl⟩, hg, hu⟩; have hg : Chg (w.heap.size + 2) (w.heap.size + 2 + 1) w3 w4 := ⟨hg.os, hg.tape, hg.output, hg.size, hg.block⟩; have tg4 := (show Blk w4 w2.heap.size _ _ from (hg.block _ hs3 (.inr (by omega))).trans HX3.out).cell; have HR4 := Lib.hid (show Blk w4 w.heap.size _ _ from (hg.block _ HR3.out.lt (.inl (by omega))).trans HR3.out); have HM4 := Lib.hid (show Blk w4 (w.heap.size + 1) _ _ from (hg.block _ HM3.out.lt (.inl (by omega))).trans HM3.out); have rg := HR4.out.cell; have rf := HR4.out.frozen; have mg := HM4.out.cell; have mf := HM4.out.frozen; unfold netZA at rg; unfold zeroAA at mg; have HB4 : Hid (Below w.heap.size w w4) := HB3.out.trans (hg.below (by omega) (by omega)); have HD4 := Lib.hid (HD3.out.chg hg (by omega)); have hs4 := hg.size; clear hg hu)
  all_goals
    go_wp2_with fail
    refine bodyPost_ret (v := .tuple #[.agg #[.slice A' ln.length c', .slice P' lp.length d'], .agg #[.int .i64 a.k, .int .i64 a.a, .int .i64 a.b, .int .i64 a.m.k, .int .i64 a.m.r, .int .i64 a.m.v, .int .i64 a.m.p, .int .i64 a.m.f]]) (by simp [results, Try.results22, go_sem, rg, mg]) rfl ⟨ln, lp, A', c', P', d', w1.heap.size, a, rfl, by omega, HD4.out.chg (a := w.heap.size) (b := w.heap.size + 2) ?_ (by omega), ?_⟩
    · (repeat (first | with_reducible refine Chg.setCell ?_ (by first | exact Nat.le_refl _ | (simp; done) | (simp; omega)) (by first | (simp; done) | (simp; omega)) _ | with_reducible refine Chg.alloc ?_ _ | with_reducible refine Chg.drew ?_)); (with_reducible exact Chg.refl _ _ _)
    · (repeat (first | with_reducible refine Below.setCell ?_ (by first | exact Nat.le_refl _ | (simp; done) | (simp; omega)) _ | with_reducible refine Below.alloc ?_ (by first | exact Nat.le_refl _ | (simp; done) | (simp; omega)) _ | with_reducible refine Below.drew ?_)); (with_reducible exact HB4.out)
end Go.Proofs.Ytjgaelnonacdkaa
