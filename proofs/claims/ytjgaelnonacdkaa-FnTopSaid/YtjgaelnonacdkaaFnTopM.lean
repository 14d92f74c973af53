/- FnTop: whatever the liar says and whatever is late, doubled or lost, the three right nodes decide one value at most, and what three have committed to is never left. No conditions. (written by wip/fntop.py) -/
import Derived.Test.YtjgaelnonacdkaaMDrawPlay
import Derived.Test.YtjgaelnonacdkaaG41
import Derived.Test.YtjgaelnonacdkaaG49
import Derived.Test.YtjgaelnonacdkaaG16
import Derived.Test.YtjgaelnonacdkaaG28
import Derived.Test.YtjgaelnonacdkaaMFnL
namespace Go.Proofs.Ytjgaelnonacdkaa
open Go.ChangeShapes Go.WideShapes Go.ChangeAt Go.RowKit Go.Joins

section
variable (A : Option Addr) (n c : Nat) (P : Option Addr) (p d : Nat) (ln : List NodeD) (lp : List NMsgD) (w : World) (hl : NodesRd w w.heap.size A n c ln) (hp : RdL msgC 5 w w.heap.size P p d lp) (hi : NetI ln lp)
include hl hp hi
theorem Agreed_t : Calls Try.prog 26 #[.agg #[.slice A n c, .slice P p d]] w fun e w' => e = .returned (.bool true) ∧ Below w.heap.size w w' := by
  have h := Agreed_any A n c P p d ln lp w hl hp
  rw [hi.agreed] at h; exact h
theorem sAgreed_t : Calls Try.prog 27 #[.agg #[.slice A n c, .slice P p d]] w fun e w' => e = .returned (.bool true) ∧ Below w.heap.size w w' := by
  have h := sAgreed_any A n c P p d ln lp w hl hp
  rw [hi.agreed] at h; exact h
theorem Honest_t : Calls Try.prog 30 #[.agg #[.slice A n c, .slice P p d]] w fun e w' => e = .returned (.bool true) ∧ Below w.heap.size w w' := by
  have h := Honest_any A n c P p d ln lp w hl hp
  rw [hi.honest] at h; exact h
theorem sHonest_t : Calls Try.prog 28 #[.agg #[.slice A n c, .slice P p d]] w fun e w' => e = .returned (.bool true) ∧ Below w.heap.size w w' := by
  have h := sHonest_any A n c P p d ln lp w hl hp
  rw [hi.honest] at h; exact h
theorem Held_t : Calls Try.prog 31 #[.agg #[.slice A n c, .slice P p d]] w fun e w' => e = .returned (.bool true) ∧ Below w.heap.size w w' := by
  have h := Held_any A n c P p d ln lp w hl hp
  rw [hi.held] at h; exact h
theorem sHeld_t : Calls Try.prog 29 #[.agg #[.slice A n c, .slice P p d]] w fun e w' => e = .returned (.bool true) ∧ Below w.heap.size w w' := by
  have h := sHeld_any A n c P p d ln lp w hl hp
  rw [hi.held] at h; exact h
end

set_option maxRecDepth 100000 in
set_option maxHeartbeats 8000000 in
theorem FnTop_walk (A : Option Addr) (n c : Nat) (l : List UInt8) (w : World) (hl : RdL octC 1 w w.heap.size A n c l) :
    Calls Try.prog 6 #[.slice A n c] w fun e w' => e = .returned (.bool true) ∧ Below w.heap.size w w' := by
  have HL := Lib.hid hl
  clear hl
  by_cases hn : (1048576 : Int) < n
  · have hnb : decide ((1048576 : Int) < n) = true := decide_eq_true hn
    go_enter Try.func6, Try.ntmps6
    go_wp2_with (go_at_call 21; (with_reducible refine (big_any A n c _).mono ?_); rintro e w' ⟨rfl, rfl⟩)
    go_ret
    exact ⟨rfl, Below.refl _ _⟩
  have hnb : decide ((1048576 : Int) < n) = false := decide_eq_false hn
  go_enter Try.func6, Try.ntmps6
  go_wp2_with (go_at_call 21; (with_reducible refine (big_any A n c _).mono ?_); rintro e w' ⟨rfl, rfl⟩)
  clear hnb
  refine (DrawNetPlay_any A n c l _ HL.out (by omega)).mono ?_
  rintro e w1 ⟨la, Al, cl, rfl, ho, hll, hb⟩
  have B0 := Lib.hid (Below.refl w.heap.size w)
  have hs1 := hb.size
  have B1 := Lib.hid (B0.out.trans (hb.mono B0.out.size))
  clear hb B0
  have Ol1 := Lib.hid ho
  clear ho
  obtain ⟨r, hr⟩ : ∃ r, r = playN la := ⟨_, rfl⟩
  have HR := Lib.hid hr
  clear hr
  go_wp2_with fail
  refine (NetPlay_any Al la.length cl la _ ((Ol1.out.rd naC_len).more (by omega))).mono ?_
  rintro e w2 ⟨Ag, cg, Pg, dg, m1, m2, he, hin, hb⟩
  rw [← HR.out] at he hin
  subst he
  have hs2 := hb.size
  have B2 := Lib.hid (B1.out.trans (hb.mono B1.out.size))
  have Ol2 := Lib.hid (Ol1.out.below hb (by omega))
  clear hb B1 Ol1
  have NG2 := Lib.hid hin
  clear hin
  go_upto_region 5 with fail
  obtain ⟨w3, hw3⟩ : ∃ q, q = w2.alloc (.cells #[.slice Ag r.1.1.length cg, .slice Pg r.1.2.length dg] 27) := ⟨_, rfl⟩
  rw [← hw3]
  have hb : Below w2.heap.size w2 w3 := by rw [hw3]; exact (Below.refl _ _).alloc (Nat.le_refl _) _
  have hxx : Blk w3 w2.heap.size 27 #[.slice Ag r.1.1.length cg, .slice Pg r.1.2.length dg] := by rw [hw3]; exact heap_alloc_new w2 _
  have HZ3 : Hid (w3.heap.size = w2.heap.size + 1) := Lib.hid (by rw [hw3]; simp)
  clear hw3
  have hs3 := hb.size
  have B3 := Lib.hid (B2.out.trans (hb.mono B2.out.size))
  have Ol3 := Lib.hid (Ol2.out.below hb (by omega))
  have NG3 := Lib.hid (NG2.out.below hb)
  clear hb B2 Ol2 NG2
  have Xg3 := Lib.hid hxx
  clear hxx
  have hlXg := Xg3.out.lt
  go_wp2_with fail
  refine (sNetPlay_any Al la.length cl la _ ((Ol3.out.rd naC_len).more (by omega))).mono ?_
  rintro e w4 ⟨As, cs, Ps, ds, lo, hi, he, hlo, hns, hb⟩
  rw [← HR.out] at he
  subst he
  clear hns
  have hs4 := hb.size
  have B4 := Lib.hid (B3.out.trans (hb.mono B3.out.size))
  have Ol4 := Lib.hid (Ol3.out.below hb (by omega))
  have NG4 := Lib.hid (NG3.out.below hb)
  have Xg4 := Lib.hid (Xg3.out.below hb Xg3.out.lt)
  clear hb B3 Ol3 NG3 Xg3
  go_upto_region 6 with fail
  obtain ⟨w5, hw5⟩ : ∃ q, q = w4.alloc (.cells #[.slice As r.1.1.length cs, .slice Ps r.1.2.length ds] 27) := ⟨_, rfl⟩
  rw [← hw5]
  have hb : Below w4.heap.size w4 w5 := by rw [hw5]; exact (Below.refl _ _).alloc (Nat.le_refl _) _
  have hxx : Blk w5 w4.heap.size 27 #[.slice As r.1.1.length cs, .slice Ps r.1.2.length ds] := by rw [hw5]; exact heap_alloc_new w4 _
  have HZ5 : Hid (w5.heap.size = w4.heap.size + 1) := Lib.hid (by rw [hw5]; simp)
  clear hw5
  have hs5 := hb.size
  have B5 := Lib.hid (B4.out.trans (hb.mono B4.out.size))
  have Ol5 := Lib.hid (Ol4.out.below hb (by omega))
  have NG5 := Lib.hid (NG4.out.below hb)
  have Xg5 := Lib.hid (Xg4.out.below hb Xg4.out.lt)
  clear hb B4 Ol4 NG4 Xg4
  have Xs5 := Lib.hid hxx
  clear hxx
  have hlXs := Xs5.out.lt
  clear Xs5
  clear Ol5
  have ceXg := Xg5.out.cell
  have lbXg := Xg5.out.lt
  by_cases h4 : 400 < la.length
  · have hr0 : r.1.1.length = 0 := by rw [HR.out]; unfold playN; rw [if_pos h4]; rfl
    go_wp2_with fail
    go_ret
    exact ⟨by simp [hr0], B5.out⟩
  have HNI : Hid (NetI r.1.1 r.1.2) := Lib.hid (by rw [HR.out]; unfold playN; rw [if_neg h4]; exact netI_play la)
  have h4i : ¬ (400 : Int) < la.length := by omega
  go_wp2_with fail
  refine (Agreed_t Ag r.1.1.length cg Pg r.1.2.length dg r.1.1 r.1.2 _ NG5.out.rdn NG5.out.rdp HNI.out).mono ?_
  rintro e w6 ⟨rfl, hb⟩
  clear ceXg lbXg
  have hs6 := hb.size
  have B6 := Lib.hid (B5.out.trans (hb.mono B5.out.size))
  have NG6 := Lib.hid (NG5.out.below hb)
  have Xg6 := Lib.hid (Xg5.out.below hb Xg5.out.lt)
  clear hb B5 NG5 Xg5
  have ceXg := Xg6.out.cell
  have lbXg := Xg6.out.lt
  go_wp2_with fail
  refine (sAgreed_t Ag r.1.1.length cg Pg r.1.2.length dg r.1.1 r.1.2 _ NG6.out.rdn NG6.out.rdp HNI.out).mono ?_
  rintro e w7 ⟨rfl, hb⟩
  clear ceXg lbXg
  have hs7 := hb.size
  have B7 := Lib.hid (B6.out.trans (hb.mono B6.out.size))
  have NG7 := Lib.hid (NG6.out.below hb)
  have Xg7 := Lib.hid (Xg6.out.below hb Xg6.out.lt)
  clear hb B6 NG6 Xg6
  have ceXg := Xg7.out.cell
  have lbXg := Xg7.out.lt
  go_wp2_with fail
  refine (sHonest_t Ag r.1.1.length cg Pg r.1.2.length dg r.1.1 r.1.2 _ NG7.out.rdn NG7.out.rdp HNI.out).mono ?_
  rintro e w8 ⟨rfl, hb⟩
  clear ceXg lbXg
  have hs8 := hb.size
  have B8 := Lib.hid (B7.out.trans (hb.mono B7.out.size))
  have NG8 := Lib.hid (NG7.out.below hb)
  have Xg8 := Lib.hid (Xg7.out.below hb Xg7.out.lt)
  clear hb B7 NG7 Xg7
  have ceXg := Xg8.out.cell
  have lbXg := Xg8.out.lt
  go_wp2_with fail
  refine (sHeld_t Ag r.1.1.length cg Pg r.1.2.length dg r.1.1 r.1.2 _ NG8.out.rdn NG8.out.rdp HNI.out).mono ?_
  rintro e w9 ⟨rfl, hb⟩
  clear ceXg lbXg
  have hs9 := hb.size
  have B9 := Lib.hid (B8.out.trans (hb.mono B8.out.size))
  have NG9 := Lib.hid (NG8.out.below hb)
  have Xg9 := Lib.hid (Xg8.out.below hb Xg8.out.lt)
  clear hb B8 NG8 Xg8
  have ceXg := Xg9.out.cell
  have lbXg := Xg9.out.lt
  go_wp2_with fail
  refine (Honest_t Ag r.1.1.length cg Pg r.1.2.length dg r.1.1 r.1.2 _ NG9.out.rdn NG9.out.rdp HNI.out).mono ?_
  rintro e w10 ⟨rfl, hb⟩
  clear ceXg lbXg
  have hs10 := hb.size
  have B10 := Lib.hid (B9.out.trans (hb.mono B9.out.size))
  have NG10 := Lib.hid (NG9.out.below hb)
  have Xg10 := Lib.hid (Xg9.out.below hb Xg9.out.lt)
  clear hb B9 NG9 Xg9
  have ceXg := Xg10.out.cell
  have lbXg := Xg10.out.lt
  go_wp2_with fail
  refine (Held_t Ag r.1.1.length cg Pg r.1.2.length dg r.1.1 r.1.2 _ NG10.out.rdn NG10.out.rdp HNI.out).mono ?_
  rintro e w11 ⟨rfl, hb⟩
  clear ceXg lbXg
  have hs11 := hb.size
  have B11 := Lib.hid (B10.out.trans (hb.mono B10.out.size))
  have NG11 := Lib.hid (NG10.out.below hb)
  have Xg11 := Lib.hid (Xg10.out.below hb Xg10.out.lt)
  clear hb B10 NG10 Xg10
  have ceXg := Xg11.out.cell
  have lbXg := Xg11.out.lt
  go_wp2_with fail
  go_ret
  exact ⟨rfl, B11.out⟩

set_option maxRecDepth 100000 in
theorem FnTop_lifted (os : Os) (started : os.Started) (H : Type) (enc : TypeId × Value → H) :
    ReturnsInHanded {} Try.checked os 6 .any (Rows.fnTopSpec.pre6 enc Try.prog Try.f6 Rows.fnTopRow.domain false) (Rows.fnTopSpec.post enc Try.prog Try.f6 false true false false) := by
  refine returnsInHanded_of_change (C := Try.checked) own started (by kernel_rfl) Try.func6
    (ChangeSpec.witness6 (enc := enc) (C := Try.checked) false ⟨#[], #[.slice none 0 0], []⟩ 8 (by kernel_rfl) (by kernel_rfl) (by kernel_rfl) (by kernel_rfl)) ?_
  intro W base args ds gs before hval0 hW hcnd _
  have hval : ∀ (j : Nat) t v, Try.f6.params[j]? = some t → args[j]? = some v → Value.okWide Try.prog W .any base t v := hval0
  have hW' := hW
  obtain ⟨p, q, hA0, hV, rfl, hfz, hnd⟩ := hW
  have hA : DataW.TrodAll enc Try.prog W 0 (fun _ => true) true Try.f6.params.toList args.toList ds p := hA0
  rw [Try.params6] at hA hval
  obtain ⟨v0, vs0, d0, ds0, p0, q0, hargs, rfl, rfl, h0, r0⟩ := trodAll_cons hA
  obtain ⟨rfl, rfl, rfl⟩ := trodAll_nil r0
  obtain rfl : args = #[v0] := by cases args; simp_all
  obtain ⟨A, n, c, rfl, l, hl⟩ := open_code (hval 0 54 v0 rfl rfl) h0
  refine (FnTop_walk A n c l W hl).mono fun e W' ⟨he, hb⟩ => ?_
  subst he
  refine ⟨_, rfl, law_post (f := Try.f6) (tb := 4) rfl Try.underlying4 rfl (by kernel_rfl) (fun gs hg => by subst hg; rfl) (fun gs hg => by subst hg; rfl) (fun gs hg => by subst hg; rfl) hW' hb⟩

theorem FnTop_holds : Rows.FnTopSaid :=
  OpenClaim.holds_of_wide 6 Try.f6 rfl rfl rfl rfl rfl rfl rfl ⟨rfl, rfl, rfl, rfl, rfl⟩ rfl rfl rfl rfl rfl (by kernel_rfl) Try.func6 (by kernel_rfl)
    (of_decide_eq_true (by kernel_rfl)) (by unfold Func.isWrapper; first | (rw [if_pos (by decide +kernel)]; kernel_rfl) | (rw [if_neg (by decide +kernel)]; exact ⟨rfl, rfl⟩))
    (fun os started H enc _ => FnTop_lifted os started H enc)
#print axioms FnTop_holds
end Go.Proofs.Ytjgaelnonacdkaa
