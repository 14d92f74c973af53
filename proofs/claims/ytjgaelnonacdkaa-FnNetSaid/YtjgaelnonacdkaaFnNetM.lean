/- FnNet: a net stays right by all that is done to it; what is refused changes nothing; nothing that was sent is taken back. No conditions. (written by wip/fnnet.py) -/
import Derived.Test.YtjgaelnonacdkaaMDrawNetDo
import Derived.Test.YtjgaelnonacdkaaMNetPlayS
import Derived.Test.YtjgaelnonacdkaaMNetAp
import Derived.Test.YtjgaelnonacdkaaMFnL
namespace Go.Proofs.Ytjgaelnonacdkaa
open Go.ChangeShapes Go.WideShapes Go.ChangeAt Go.RowKit Go.Joins

set_option maxHeartbeats 1000000 in
theorem sameMsgs_same (A : Option Addr) (n c : Nat) (A' : Option Addr) (c' : Nat) (l : List NMsgD) (w : World) (hl : RdL msgC 5 w w.heap.size A n c l) (hl' : RdL msgC 5 w w.heap.size A' n c' l) :
    Calls Try.prog 24 #[.slice A n c, .slice A' n c'] w fun e w' => e = .returned (.bool true) ∧ Below w.heap.size w w' := by
  have hn := hl.le
  have HL := Lib.hid hl
  have HL' := Lib.hid hl'
  clear hl hl'
  go_enter Try.func24, Try.ntmps24
  go_wp2_with fail
  go_loopw [5] (fun i wr => ∃ k : Nat, k ≤ n ∧ i = .int .i64 k ∧ Below w.heap.size w wr) (fun i _ => n - (intOf i).toNat)
  case atStart => exact ⟨0, by omega, rfl, Below.refl _ _⟩
  case round =>
    obtain ⟨k, hk, rfl, hb⟩ := hrel
    have hz := hb.size
    by_cases hkn : k < n
    · obtain ⟨b, off, p, rfl, hb1, hp, c0, c1, c2, c3, c4⟩ := msg_cells (HL.out.below hb (Nat.le_refl _)) hkn
      obtain ⟨b', off', p', rfl, hb1', hp', d0, d1, d2, d3, d4⟩ := msg_cells (HL'.out.below hb (Nat.le_refl _)) hkn
      obtain rfl : p = p' := by rw [hp] at hp'; injection hp'
      clear hp hp'
      have hlt : b < wr.heap.size := by omega
      have hlt' : b' < wr.heap.size := by omega
      go_wp2_with fail
      refine wp_region_below (by kernel_rfl) (by kernel_rfl) ?_
      repeat (first | go_big_quiet_skip | (go_big_quiet_want; go_big_quiet_op; first | go_big_quiet_on | (apply Exists.intro; refine ⟨fun w1 hC => ?_, ?_⟩; (focus (first | rfl | fail | (simp [(bcell hC).1, hlt, hlt', c0, c1, c2, c3, c4, d0, d1, d2, d3, d4]; done) | (simp [(bcell hC).1, hlt, hlt', c0, c1, c2, c3, c4, d0, d1, d2, d3, d4]; rfl))); go_big_quiet_on)))
      refine wpQuiet_nil ?_
      intro w2 hb2
      obtain ⟨hc2, hf2, hz2⟩ := bcell hb2
      go_wp2
      go_roundw
      case rel => exact ⟨k + 1, by omega, by go_num, hb.trans (hb2.mono hz)⟩
      case measure => simp [intOf]; omega
    · obtain rfl : k = n := by omega
      go_wp2
      go_ret
      exact ⟨rfl, hb⟩
theorem sNetOk_b (A : Option Addr) (n c : Nat) (P : Option Addr) (p d : Nat) (ln : List NodeD) (lp : List NMsgD) (b : Bool) (w : World) (hl : NodesRd w w.heap.size A n c ln) (hp : RdL msgC 5 w w.heap.size P p d lp) (hb : netB ln lp = b) :
    Calls Try.prog 23 #[.agg #[.slice A n c, .slice P p d]] w fun e w' => e = .returned (.bool b) ∧ Below w.heap.size w w' := by
  have h := sNetOk_any A n c P p d ln lp w hl hp
  rw [hb] at h; exact h

set_option maxRecDepth 100000 in
set_option maxHeartbeats 8000000 in
theorem FnNet_walk (A : Option Addr) (n c : Nat) (l : List UInt8) (w : World) (hl : RdL octC 1 w w.heap.size A n c l) :
    Calls Try.prog 5 #[.slice A n c] w fun e w' => e = .returned (.bool true) ∧ Below w.heap.size w w' := by
  have HL := Lib.hid hl
  clear hl
  by_cases hn : (1048576 : Int) < n
  · have hnb : decide ((1048576 : Int) < n) = true := decide_eq_true hn
    go_enter Try.func5, Try.ntmps5
    go_wp2_with (go_at_call 21; (with_reducible refine (big_any A n c _).mono ?_); rintro e w' ⟨rfl, rfl⟩)
    go_ret
    exact ⟨rfl, Below.refl _ _⟩
  have hnb : decide ((1048576 : Int) < n) = false := decide_eq_false hn
  go_enter Try.func5, Try.ntmps5
  go_wp2_with (go_at_call 21; (with_reducible refine (big_any A n c _).mono ?_); rintro e w' ⟨rfl, rfl⟩)
  clear hnb
  refine (DrawNetDo_any A n c l _ HL.out (by omega)).mono ?_
  rintro e w1 ⟨ln, lp, A', c', P', d', lo, a, rfl, hlo, hnd, hb⟩
  have B0 := Lib.hid (Below.refl w.heap.size w)
  have hs1 := hb.size
  have B1 := Lib.hid (B0.out.trans (hb.mono B0.out.size))
  clear hb B0
  have ND1 := Lib.hid hnd
  clear hnd
  obtain ⟨r, hr⟩ : ∃ r, doN ln lp ⟨a.k, a.a, a.b, a.m⟩ = r := ⟨_, rfl⟩
  have HR := Lib.hid hr
  clear hr
  go_upto_region 4 with fail
  obtain ⟨w2, hw2⟩ : ∃ q, q = w1.alloc (.cells #[.slice A' ln.length c', .slice P' lp.length d'] 27) := ⟨_, rfl⟩
  rw [← hw2]
  have hb : Below w1.heap.size w1 w2 := by rw [hw2]; exact (Below.refl _ _).alloc (Nat.le_refl _) _
  have hxx : Blk w2 w1.heap.size 27 #[.slice A' ln.length c', .slice P' lp.length d'] := by rw [hw2]; exact heap_alloc_new w1 _
  have HZ2 : Hid (w2.heap.size = w1.heap.size + 1) := Lib.hid (by rw [hw2]; simp)
  clear hw2
  have hs2 := hb.size
  have B2 := Lib.hid (B1.out.trans (hb.mono B1.out.size))
  have ND2 := Lib.hid (ND1.out.below hb)
  clear hb B1 ND1
  have Xn2 := Lib.hid hxx
  clear hxx
  have hlXn := Xn2.out.lt
  obtain ⟨w3, hw3⟩ : ∃ q, q = w2.alloc (.cells #[.int .i64 a.k, .int .i64 a.a, .int .i64 a.b, .int .i64 a.m.k, .int .i64 a.m.r, .int .i64 a.m.v, .int .i64 a.m.p, .int .i64 a.m.f] 51) := ⟨_, rfl⟩
  rw [← hw3]
  have hb : Below w2.heap.size w2 w3 := by rw [hw3]; exact (Below.refl _ _).alloc (Nat.le_refl _) _
  have hxx : Blk w3 w2.heap.size 51 #[.int .i64 a.k, .int .i64 a.a, .int .i64 a.b, .int .i64 a.m.k, .int .i64 a.m.r, .int .i64 a.m.v, .int .i64 a.m.p, .int .i64 a.m.f] := by rw [hw3]; exact heap_alloc_new w2 _
  have HZ3 : Hid (w3.heap.size = w2.heap.size + 1) := Lib.hid (by rw [hw3]; simp)
  clear hw3
  rw [HZ2.out] at hxx
  have hs3 := hb.size
  have B3 := Lib.hid (B2.out.trans (hb.mono B2.out.size))
  have ND3 := Lib.hid (ND2.out.below hb)
  have Xn3 := Lib.hid (Xn2.out.below hb Xn2.out.lt)
  clear hb B2 ND2 Xn2
  have Xa3 := Lib.hid hxx
  clear hxx
  have hlXa := Xa3.out.lt
  have ceXn := Xn3.out.cell
  have lbXn := Xn3.out.lt
  have ceXa := Xa3.out.cell
  have lbXa := Xa3.out.lt
  go_wp2_with fail
  refine (NetDo_any A' ln.length c' P' lp.length d' ln lp a.k a.a a.b a.m _ ND3.out.rdn ND3.out.pool).mono ?_
  intro e w4 h
  rw [HR.out] at h
  obtain ⟨Ag, cg, Pg, dg, m1, m2, rfl, hin, hb⟩ := h
  clear ceXn lbXn ceXa lbXa
  have hs4 := hb.size
  have B4 := Lib.hid (B3.out.trans (hb.mono B3.out.size))
  have ND4 := Lib.hid (ND3.out.below hb)
  have Xn4 := Lib.hid (Xn3.out.below hb Xn3.out.lt)
  have Xa4 := Lib.hid (Xa3.out.below hb Xa3.out.lt)
  clear hb B3 ND3 Xn3 Xa3
  have NG4 := Lib.hid (NetAp.of_in hin)
  clear hin
  go_upto_region 5 with fail
  obtain ⟨w5, hw5⟩ : ∃ q, q = w4.alloc (.cells #[.slice Ag r.1.length cg, .slice Pg r.2.1.length dg] 27) := ⟨_, rfl⟩
  rw [← hw5]
  have hb : Below w4.heap.size w4 w5 := by rw [hw5]; exact (Below.refl _ _).alloc (Nat.le_refl _) _
  have hxx : Blk w5 w4.heap.size 27 #[.slice Ag r.1.length cg, .slice Pg r.2.1.length dg] := by rw [hw5]; exact heap_alloc_new w4 _
  have HZ5 : Hid (w5.heap.size = w4.heap.size + 1) := Lib.hid (by rw [hw5]; simp)
  clear hw5
  have hs5 := hb.size
  have B5 := Lib.hid (B4.out.trans (hb.mono B4.out.size))
  have ND5 := Lib.hid (ND4.out.below hb)
  have Xn5 := Lib.hid (Xn4.out.below hb Xn4.out.lt)
  have Xa5 := Lib.hid (Xa4.out.below hb Xa4.out.lt)
  have NG5 := Lib.hid (NG4.out.below hb)
  clear hb B4 ND4 Xn4 Xa4 NG4
  have Xg5 := Lib.hid hxx
  clear hxx
  have hlXg := Xg5.out.lt
  have ceXn := Xn5.out.cell
  have lbXn := Xn5.out.lt
  have ceXa := Xa5.out.cell
  have lbXa := Xa5.out.lt
  go_wp2_with fail
  refine (sNetDo_any A' ln.length c' P' lp.length d' ln lp a.k a.a a.b a.m _ ND5.out.rdn ND5.out.pool).mono ?_
  intro e w6 h
  rw [HR.out] at h
  obtain ⟨As, cs, Ps, ds, lo5, hi5, rfl, hl5, hns, hb⟩ := h
  clear hns
  clear ceXn lbXn ceXa lbXa
  have hs6 := hb.size
  have B6 := Lib.hid (B5.out.trans (hb.mono B5.out.size))
  have ND6 := Lib.hid (ND5.out.below hb)
  have Xn6 := Lib.hid (Xn5.out.below hb Xn5.out.lt)
  have Xa6 := Lib.hid (Xa5.out.below hb Xa5.out.lt)
  have NG6 := Lib.hid (NG5.out.below hb)
  have Xg6 := Lib.hid (Xg5.out.below hb Xg5.out.lt)
  clear hb B5 ND5 Xn5 Xa5 NG5 Xg5
  go_upto_region 6 with fail
  obtain ⟨w7, hw7⟩ : ∃ q, q = w6.alloc (.cells #[.slice As r.1.length cs, .slice Ps r.2.1.length ds] 27) := ⟨_, rfl⟩
  rw [← hw7]
  have hb : Below w6.heap.size w6 w7 := by rw [hw7]; exact (Below.refl _ _).alloc (Nat.le_refl _) _
  have hxx : Blk w7 w6.heap.size 27 #[.slice As r.1.length cs, .slice Ps r.2.1.length ds] := by rw [hw7]; exact heap_alloc_new w6 _
  have HZ7 : Hid (w7.heap.size = w6.heap.size + 1) := Lib.hid (by rw [hw7]; simp)
  clear hw7
  have hs7 := hb.size
  have B7 := Lib.hid (B6.out.trans (hb.mono B6.out.size))
  have ND7 := Lib.hid (ND6.out.below hb)
  have Xn7 := Lib.hid (Xn6.out.below hb Xn6.out.lt)
  have Xa7 := Lib.hid (Xa6.out.below hb Xa6.out.lt)
  have NG7 := Lib.hid (NG6.out.below hb)
  have Xg7 := Lib.hid (Xg6.out.below hb Xg6.out.lt)
  clear hb B6 ND6 Xn6 Xa6 NG6 Xg6
  have Xs7 := Lib.hid hxx
  clear hxx
  have hlXs := Xs7.out.lt
  clear Xs7
  clear Xa7
  obtain ⟨ok, hok⟩ : ∃ ok, r.2.2 = ok := ⟨_, rfl⟩
  have HOK := Lib.hid hok
  rw [hok]
  clear hok
  cases hB : netB ln lp
  · have HB := Lib.hid hB
    clear hB
    have e0 : r = ([], [], false) := by rw [← HR.out]; unfold doN; rw [HB.out]; rfl
    have hrl : r.1.length = 0 := by rw [e0]; rfl
    have ho2 : ok = false := by rw [← HOK.out, e0]
    subst ho2
    clear e0
    have ceXn := Xn7.out.cell
    have lbXn := Xn7.out.lt
    go_wp2_with fail
    refine (sNetOk_b A' ln.length c' P' lp.length d' ln lp false _ ND7.out.rdn ND7.out.pool HB.out).mono ?_
    rintro e w8 ⟨rfl, hb⟩
    clear ceXn lbXn
    have hs8 := hb.size
    have B8 := Lib.hid (B7.out.trans (hb.mono B7.out.size))
    have ND8 := Lib.hid (ND7.out.below hb)
    have Xn8 := Lib.hid (Xn7.out.below hb Xn7.out.lt)
    have NG8 := Lib.hid (NG7.out.below hb)
    have Xg8 := Lib.hid (Xg7.out.below hb Xg7.out.lt)
    clear hb B7 ND7 Xn7 NG7 Xg7
    have ceXg := Xg8.out.cell
    have lbXg := Xg8.out.lt
    go_wp2_with fail
    go_ret
    exact ⟨by simp, B8.out⟩
  · have HB := Lib.hid hB
    clear hB
    have hr0 : netDoN ln lp ⟨a.k, a.a, a.b, a.m⟩ = r := by rw [← HR.out]; unfold doN; rw [if_pos HB.out]
    obtain ⟨hq1, hq2, hq3⟩ := netDo_ok HB.out ⟨a.k, a.a, a.b, a.m⟩
    rw [hr0] at hq1 hq2 hq3
    clear hr0
    have HQ := Lib.hid hq1
    have hle : lp.length ≤ r.2.1.length := hq2.length_le
    have hlei : (lp.length : Int) ≤ r.2.1.length := by omega
    have HTK : Hid (r.2.1.take lp.length = lp) := Lib.hid (by obtain ⟨t, ht⟩ := hq2; rw [← ht]; simp)
    have HSM : Hid (ok = false → r.2.1.length = lp.length) := Lib.hid fun e => by rw [(hq3 (HOK.out.trans e)).1]
    clear hq1 hq2 hq3
    have ceXn := Xn7.out.cell
    have lbXn := Xn7.out.lt
    go_wp2_with fail
    refine (sNetOk_b A' ln.length c' P' lp.length d' ln lp true _ ND7.out.rdn ND7.out.pool HB.out).mono ?_
    rintro e w8 ⟨rfl, hb⟩
    clear ceXn lbXn
    have hs8 := hb.size
    have B8 := Lib.hid (B7.out.trans (hb.mono B7.out.size))
    have ND8 := Lib.hid (ND7.out.below hb)
    have Xn8 := Lib.hid (Xn7.out.below hb Xn7.out.lt)
    have NG8 := Lib.hid (NG7.out.below hb)
    have Xg8 := Lib.hid (Xg7.out.below hb Xg7.out.lt)
    clear hb B7 ND7 Xn7 NG7 Xg7
    have ceXn := Xn8.out.cell
    have lbXn := Xn8.out.lt
    have ceXg := Xg8.out.cell
    have lbXg := Xg8.out.lt
    have hcap := NG8.out.rdp.2.2.1
    have hcapi : (r.2.1.length : Int) ≤ dg := by omega
    have hlcap : (lp.length : Int) ≤ dg := by omega
    have RT : Hid (RdL msgC 5 w8 w8.heap.size Pg lp.length dg lp) := Lib.hid (by
      have h := NG8.out.rdp.take msgC_len hle
      rw [HTK.out] at h
      exact h)
    have hgeb : decide ((lp.length : Int) ≤ r.2.1.length) = true := decide_eq_true hlei
    cases ok
    · have hlq : ((r.2.1.length : Int) == (lp.length : Int)) = true := by have := HSM.out rfl; simp; omega
      have hlq2 : r.2.1.length = lp.length := HSM.out rfl
      have HLQ := Lib.hid hlq2
      clear hlq2
      go_upto_region 10 with fail
      refine wp_region_below (by kernel_rfl) (by kernel_rfl) ?_
      repeat (first | go_big_quiet_skip | (go_big_quiet_want; go_big_quiet_op; first | go_big_quiet_on | (apply Exists.intro; refine ⟨fun w1 hC => ?_, ?_⟩; (focus (first | rfl | (go_at_call 23; with_reducible exact quiet_below hC (sNetOk_b Ag r.1.length cg Pg r.2.1.length dg r.1 r.2.1 true _ (by exact (NG8.out.below hC).rdn) (by exact (NG8.out.below hC).rdp) HQ.out)) | (go_at_call 24; with_reducible exact quiet_below hC (sameMsgs_same Pg lp.length dg P' d' lp _ (by exact (RT.out.below hC (Nat.le_refl _)).more hC.size) (by exact (ND8.out.below hC).pool))) | (simp [(bcell hC).1, ceXn, lbXn, ceXg, lbXg]; done) | (simp [(bcell hC).1, ceXn, lbXn, ceXg, lbXg]; rfl))); go_big_quiet_on)))
      refine wpQuiet_nil ?_
      intro w2 hb2
      obtain ⟨hc2, hf2, hz2⟩ := bcell hb2
      go_wp2_with fail
      go_ret
      exact ⟨rfl, B8.out.trans (hb2.mono (by omega))⟩
    · go_upto_region 10 with fail
      refine wp_region_below (by kernel_rfl) (by kernel_rfl) ?_
      repeat (first | go_big_quiet_skip | (go_big_quiet_want; go_big_quiet_op; first | go_big_quiet_on | (apply Exists.intro; refine ⟨fun w1 hC => ?_, ?_⟩; (focus (first | rfl | (go_at_call 23; with_reducible exact quiet_below hC (sNetOk_b Ag r.1.length cg Pg r.2.1.length dg r.1 r.2.1 true _ (by exact (NG8.out.below hC).rdn) (by exact (NG8.out.below hC).rdp) HQ.out)) | (go_at_call 24; with_reducible exact quiet_below hC (sameMsgs_same Pg lp.length dg P' d' lp _ (by exact (RT.out.below hC (Nat.le_refl _)).more hC.size) (by exact (ND8.out.below hC).pool))) | (simp [(bcell hC).1, ceXn, lbXn, ceXg, lbXg]; done) | (simp [(bcell hC).1, ceXn, lbXn, ceXg, lbXg]; rfl))); go_big_quiet_on)))
      refine wpQuiet_nil ?_
      intro w2 hb2
      obtain ⟨hc2, hf2, hz2⟩ := bcell hb2
      go_wp2_with fail
      go_ret
      exact ⟨rfl, B8.out.trans (hb2.mono (by omega))⟩

set_option maxRecDepth 100000 in
theorem FnNet_lifted (os : Os) (started : os.Started) (H : Type) (enc : TypeId × Value → H) :
    ReturnsInHanded {} Try.checked os 5 .any (Rows.fnNetSpec.pre6 enc Try.prog Try.f5 Rows.fnNetRow.domain false) (Rows.fnNetSpec.post enc Try.prog Try.f5 false true false false) := by
  refine returnsInHanded_of_change (C := Try.checked) own started (by kernel_rfl) Try.func5
    (ChangeSpec.witness6 (enc := enc) (C := Try.checked) false ⟨#[], #[.slice none 0 0], []⟩ 8 (by kernel_rfl) (by kernel_rfl) (by kernel_rfl) (by kernel_rfl)) ?_
  intro W base args ds gs before hval0 hW hcnd _
  have hval : ∀ (j : Nat) t v, Try.f5.params[j]? = some t → args[j]? = some v → Value.okWide Try.prog W .any base t v := hval0
  have hW' := hW
  obtain ⟨p, q, hA0, hV, rfl, hfz, hnd⟩ := hW
  have hA : DataW.TrodAll enc Try.prog W 0 (fun _ => true) true Try.f5.params.toList args.toList ds p := hA0
  rw [Try.params5] at hA hval
  obtain ⟨v0, vs0, d0, ds0, p0, q0, hargs, rfl, rfl, h0, r0⟩ := trodAll_cons hA
  obtain ⟨rfl, rfl, rfl⟩ := trodAll_nil r0
  obtain rfl : args = #[v0] := by cases args; simp_all
  obtain ⟨A, n, c, rfl, l, hl⟩ := open_code (hval 0 54 v0 rfl rfl) h0
  refine (FnNet_walk A n c l W hl).mono fun e W' ⟨he, hb⟩ => ?_
  subst he
  refine ⟨_, rfl, law_post (f := Try.f5) (tb := 4) rfl Try.underlying4 rfl (by kernel_rfl) (fun gs hg => by subst hg; rfl) (fun gs hg => by subst hg; rfl) (fun gs hg => by subst hg; rfl) hW' hb⟩

theorem FnNet_holds : Rows.FnNetSaid :=
  OpenClaim.holds_of_wide 5 Try.f5 rfl rfl rfl rfl rfl rfl rfl ⟨rfl, rfl, rfl, rfl, rfl⟩ rfl rfl rfl rfl rfl (by kernel_rfl) Try.func5 (by kernel_rfl)
    (of_decide_eq_true (by kernel_rfl)) (by unfold Func.isWrapper; first | (rw [if_pos (by decide +kernel)]; kernel_rfl) | (rw [if_neg (by decide +kernel)]; exact ⟨rfl, rfl⟩))
    (fun os started H enc _ => FnNet_lifted os started H enc)
#print axioms FnNet_holds
end Go.Proofs.Ytjgaelnonacdkaa
