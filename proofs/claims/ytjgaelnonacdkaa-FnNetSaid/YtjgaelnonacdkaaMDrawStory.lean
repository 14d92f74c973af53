/- Draws of a net's story: l17Story. (written by wip/drawstory.py) -/
import Derived.WalkKit
import Derived.WalkSpells
import Derived.WalkLawsBesides
import Derived.Lib.Hide
import Derived.Test.YtjgaelnonacdkaaMDrawAct
import Derived.Test.YtjgaelnonacdkaaMNetPlayS
import Derived.Test.YtjgaelnonacdkaaG41
namespace Go.Proofs.Ytjgaelnonacdkaa
open Go.RowKit

section
variable {w w' : World} {lo hi a b c d k cl : Nat} {A P Al : Option Addr} {ln : List NodeD} {lp : List NMsgD} {la : List ActD}
theorem OwnL.keepT {α : Type} {f : α → List Value} {size : Nat} {t : TypeId} {n : Nat} {l : List α} (h : OwnL f size t w lo hi A n c l) (hk : ∀ q cs, Blk w q t cs → Blk w' q t cs) : OwnL f size t w' lo hi A n c l := by
  refine h.keep fun g _ _ e => ?_
  obtain ⟨cu, hb, _⟩ := h.blk e
  exact (hk g cu hb).trans hb.symm
theorem NetS.by_row (h : NetS w lo hi A c P d ln lp) (hr : OwnL naC 8 51 w a b Al k cl la) (hg : w.grownBy w' (Value.ownBlock (.slice Al k cl))) : NetS w' lo hi A c P d ln lp := by
  cases Al with
  | none => exact h.chg (grown_chg hg (lo := 0) (hi := 0) fun g e => by simp [Value.ownBlock] at e) (.inr (Nat.zero_le _))
  | some p =>
    obtain ⟨cu, hb, _⟩ := hr.blk (g := p.block) rfl
    exact h.box hb (by decide) (by decide) (grown_chg hg fun g e => by simp only [Value.ownBlock, Option.some.injEq] at e; omega)
theorem Blk.by_row {q T : Nat} {cs : Array Value} (hq : Blk w q T cs) (ht : T ≠ 51) (hr : OwnL naC 8 51 w a b Al k cl la) (hg : w.grownBy w' (Value.ownBlock (.slice Al k cl))) : Blk w' q T cs := by
  refine (hg.block q hq.lt fun e => ?_).trans hq
  obtain ⟨cu, hb, _⟩ := hr.blk e.symm
  have h1 : w.heap[q]? = some (.cells cu 51 (0, 0)) := hb
  have h2 : w.heap[q]? = some (.cells cs T (0, 0)) := hq
  rw [h1] at h2
  simp only [Option.some.injEq, Obj.cells.injEq] at h2
  exact ht h2.2.1.symm
end
theorem Rd.oneA (w : World) (x : ActD) (g : Nat) (hg : g = w.heap.size) : Rd (w.alloc (.cells #[.int .i64 x.k, .int .i64 x.a, .int .i64 x.b, .int .i64 x.m.k, .int .i64 x.m.r, .int .i64 x.m.v, .int .i64 x.m.p, .int .i64 x.m.f] 51)) (w.heap.size + 1) (some ⟨g, 0, none⟩) 1 1 8 (naC x) := by
  subst hg
  refine ⟨rfl, Nat.le_refl _, by unfold maxLen; omega, fun _ => ⟨w.heap.size, 0, rfl, by omega, fun j hj => ?_⟩⟩
  have hb : Blk (w.alloc (.cells #[.int .i64 x.k, .int .i64 x.a, .int .i64 x.b, .int .i64 x.m.k, .int .i64 x.m.r, .int .i64 x.m.v, .int .i64 x.m.p, .int .i64 x.m.f] 51)) w.heap.size 51 #[.int .i64 x.k, .int .i64 x.a, .int .i64 x.b, .int .i64 x.m.k, .int .i64 x.m.r, .int .i64 x.m.v, .int .i64 x.m.p, .int .i64 x.m.f] := heap_alloc_new w _
  rw [hb.cell, Nat.zero_add]; simp [naC]
theorem naC_oneS (x : ActD) : ∀ u ∈ naC x, u.oneCell' = true := by
  intro u hu
  simp only [naC, List.mem_cons, List.not_mem_nil, or_false] at hu
  rcases hu with rfl | rfl | rfl | rfl | rfl | rfl | rfl | rfl <;> rfl
/-- the row's act appended: the row, and what stays -/
theorem row_app {w w' : World} {lo cl : Nat} {Al : Option Addr} {la : List ActD} {x : ActD} {v : Value} (_ : OwnL naC 8 51 w lo w.heap.size Al la.length cl la)
    (hown : w'.ownsRow lo 51 8 v (la.length + 1) (la.flatMap naC ++ naC x)) : ∃ A' c', v = .slice A' (la.length + 1) c' ∧ OwnL naC 8 51 w' lo w'.heap.size A' (la ++ [x]).length c' (la ++ [x]) := by
  have e : la.flatMap naC ++ naC x = (la ++ [x]).flatMap naC := by rw [List.flatMap_append]; simp
  rw [e] at hown
  obtain ⟨A', c', rfl, ho⟩ := OwnL.of_own (f := naC) (n := la.length + 1) (l := la ++ [x]) (by simp) hown
  exact ⟨A', c', rfl, by simpa using ho⟩
theorem NetI.b3 {ln : List NodeD} {lp : List NMsgD} (h : NetI ln lp) : ln.length = 3 ∧ lp.length ≤ 150 := by
  obtain ⟨h3, _, h150, _⟩ := netB_iff.1 h.netB
  exact ⟨h3, h150⟩
def StoryDrew (cb : Nat) (A : Option Addr) (n c : Nat) (m : Int) (w : World) (e : Ending) (w' : World) : Prop :=
  ∃ (la : List ActD) (Al : Option Addr) (cl : Nat), e = .returned (.slice Al la.length cl) ∧ OwnL naC 8 51 w' w.heap.size w'.heap.size Al la.length cl la ∧ (la.length : Int) ≤ 3 + (if 0 < m then m - 1 else 0) ∧ Chg cb (cb + 1) w w' ∧ Cur w' cb A n c

set_option maxRecDepth 100000 in
set_option maxHeartbeats 8000000 in
theorem l17Story_any (cb : Nat) (A : Option Addr) (n c : Nat) (m : Int) (w : World) (hc : Cur w cb A n c) (hm : m ≤ 1000) :
    Calls Try.prog 57 #[.pointer (some ⟨cb, 0, none⟩), .int .i64 m] w (StoryDrew cb A n c m w) := by
  obtain ⟨i0, hi, hz0, hz1, hz2⟩ := info_parts infoNetAct
  have HC := Lib.hid hc
  have hlt := hc.lt
  clear hc
  go_enter Try.func57, Try.ntmps57
  go_wp2_with fail
  refine (sNetNew_any _).mono ?_
  rintro e w1 ⟨A1, c1, rfl, ho, hb⟩
  have hs1 := hb.size
  go_upto_region 2 with fail
  obtain ⟨w2, hw2⟩ : ∃ q, q = w1.alloc (.cells #[.slice A1 3 c1, .slice none 0 0] 27) := ⟨_, rfl⟩
  rw [← hw2]
  have hb2 : Below w1.heap.size w1 w2 := by rw [hw2]; exact (Below.refl _ _).alloc (Nat.le_refl _) _
  have HX2 : Hid (Blk w2 w1.heap.size 27 #[.slice A1 newN.length c1, .slice none ([] : List NMsgD).length 0]) := Lib.hid (by rw [hw2]; exact heap_alloc_new w1 _)
  have HI2 : Hid (NetS w2 w.heap.size w1.heap.size A1 c1 none 0 newN []) := Lib.hid ((NetS.of_low (lp := []) (m1 := w.heap.size) (Nat.le_refl _) hs1 ho (msgs_nil _ _ _)).below hb2)
  have HU2 := Lib.hid ((HC.out.below hb hlt (Nat.le_refl _)).below hb2 (by omega) (Nat.le_refl _))
  have HC2 : Hid (Chg cb (cb + 1) w w2) := Lib.hid (((Chg.refl _ _ _).below_trans hb).below_trans hb2)
  have hs2 := HX2.out.lt
  clear hw2 hb2 hb ho HC
  go_upto_region 3 with fail
  obtain ⟨w3, hw3⟩ : ∃ q, q = w2.alloc (.cells #[] 51) := ⟨_, rfl⟩
  rw [← hw3]
  have hb3 : Below w2.heap.size w2 w3 := by rw [hw3]; exact (Below.refl _ _).alloc (Nat.le_refl _) _
  have hrow : w3.ownsRow w.heap.size 51 8 (.slice (some ⟨w2.heap.size, 0, none⟩) 0 0) ([] : List ActD).length (([] : List ActD).flatMap naC) := by rw [hw3]; exact own_mono (World.ownsRow_lit w2 #[] 0 (Nat.le_refl _) (by decide) rfl) (by omega)
  obtain ⟨A3, c3, e3, hro3⟩ := OwnL.of_own (f := naC) (l := []) rfl hrow
  simp only [Value.slice.injEq] at e3
  obtain ⟨rfl, -, rfl⟩ := e3
  have HRO3 := Lib.hid hro3
  have HX3 := Lib.hid (HX2.out.below hb3 hs2)
  have HI3 := Lib.hid (HI2.out.below hb3)
  have HU3 := Lib.hid (HU2.out.below hb3 HU2.out.lt (Nat.le_refl _))
  have HC3 := Lib.hid (HC2.out.below_trans hb3)
  have hs3 : w1.heap.size < w3.heap.size := HX3.out.lt
  clear hw3 hb3 hrow hro3 HX2 HI2 HU2 HC2
  go_wp2_with fail
  go_loopw [6, 7] (fun lv iv wr => ∃ (k : Nat) (la : List ActD) (Al : Option Addr) (cl : Nat) (ln : List NodeD) (lp : List NMsgD) (A' : Option Addr) (c' : Nat) (P' : Option Addr) (d' lo1 hi1 : Nat), (la.length = k ∧ k ≤ 3) ∧ iv = .int .i64 ((k : Int) + 1) ∧ lv = .slice Al la.length cl ∧ w.heap.size ≤ lo1 ∧ NetI ln lp ∧ NetS wr lo1 hi1 A' c' P' d' ln lp ∧
        Blk wr w1.heap.size 27 #[.slice A' ln.length c', .slice P' lp.length d'] ∧ OwnL naC 8 51 wr w.heap.size wr.heap.size Al la.length cl la ∧ Cur wr cb A n c ∧ Chg cb (cb + 1) w wr ∧ w1.heap.size < wr.heap.size) (fun _ iv _ => 4 - (intOf iv).toNat)
  case atStart => exact ⟨0, [], _, _, newN, [], A1, c1, none, 0, _, _, ⟨rfl, by omega⟩, by simp, rfl, Nat.le_refl _, netI_new, HI3.out, HX3.out, HRO3.out, HU3.out, HC3.out, hs3⟩
  case round =>
    clear HI3 HX3 HRO3 HU3 HC3
    obtain ⟨k, la, Al, cl, ln, lp, A', c', P', d', lo1, hi1, ⟨hk1, hk2⟩, rfl, rfl, hlo1, hni, hns, hx, hro, hu, hcg, hsx⟩ := hrel
    have HNI := Lib.hid hni; have HNS := Lib.hid hns; have HX := Lib.hid hx; have HRO := Lib.hid hro; have HU := Lib.hid hu; have HCG := Lib.hid hcg
    have hsw := hcg.size
    have hlx := hx.lt
    clear hni hns hx hro hu hcg
    have HK1 := Lib.hid hk1
    have hlb : la.length ≤ 3 := by omega
    clear hk1
    by_cases hkn : k < 3
    · go_wp2_with (at_builtin; refine wpList_app_rd _ rfl _ _ _ rfl w.heap.size 51 i0 _ 8 64 Try.underlying30 hi hz0 hz1 hz2 rfl (by decide) (.slice Al la.length cl) la.length (la.flatMap naC) rfl (by exact (HRO.out.owns naC_len).alloc _) _ _ 1 1 _ rfl (by exact Rd.oneA wr ⟨1, (k : Int) + 1, 0, ⟨0, 0, 0, 0, 0⟩⟩ _ (by first | rfl | simp)) (naC_oneS _) (by unfold maxLen; omega) (by omega) (by first | (simp; done) | (simp; omega)) ?_)
      intro v2 w5 hown hg hat
      have hroA := (HRO.out.below ((Below.refl _ _).alloc (Nat.le_refl _) (.cells #[.int .i64 1, .int .i64 ((k : Int) + 1), .int .i64 0, .int .i64 0, .int .i64 0, .int .i64 0, .int .i64 0, .int .i64 0] 51)) (by omega)).wide (lo' := w.heap.size) (hi' := (wr.alloc (.cells #[.int .i64 1, .int .i64 ((k : Int) + 1), .int .i64 0, .int .i64 0, .int .i64 0, .int .i64 0, .int .i64 0, .int .i64 0] 51)).heap.size) (Nat.le_refl _) (by first | (simp; done) | (simp; omega))
      obtain ⟨A5, c5, rfl, ho5⟩ := row_app (x := ⟨1, (k : Int) + 1, 0, ⟨0, 0, 0, 0, 0⟩⟩) hroA hown
      have hnsA := (HNS.out.below ((Below.refl _ _).alloc (Nat.le_refl _) (.cells #[.int .i64 1, .int .i64 ((k : Int) + 1), .int .i64 0, .int .i64 0, .int .i64 0, .int .i64 0, .int .i64 0, .int .i64 0] 51))).by_row hroA hg
      have hxA := (HX.out.alloc (.cells #[.int .i64 1, .int .i64 ((k : Int) + 1), .int .i64 0, .int .i64 0, .int .i64 0, .int .i64 0, .int .i64 0, .int .i64 0] 51)).by_row (by decide) hroA hg
      have hgc : Chg w.heap.size (wr.alloc (.cells #[.int .i64 1, .int .i64 ((k : Int) + 1), .int .i64 0, .int .i64 0, .int .i64 0, .int .i64 0, .int .i64 0, .int .i64 0] 51)).heap.size (wr.alloc (.cells #[.int .i64 1, .int .i64 ((k : Int) + 1), .int .i64 0, .int .i64 0, .int .i64 0, .int .i64 0, .int .i64 0, .int .i64 0] 51)) w5 := grown_chg hg fun g e => hroA.block g e
      have hcu := (HU.out.alloc (.cells #[.int .i64 1, .int .i64 ((k : Int) + 1), .int .i64 0, .int .i64 0, .int .i64 0, .int .i64 0, .int .i64 0, .int .i64 0] 51)).chg hgc hlt
      have hcc := (HCG.out.alloc (.cells #[.int .i64 1, .int .i64 ((k : Int) + 1), .int .i64 0, .int .i64 0, .int .i64 0, .int .i64 0, .int .i64 0, .int .i64 0] 51)).trans_topA (Nat.le_refl _) hgc
      have hs5 : wr.heap.size + 1 ≤ w5.heap.size := by have := hgc.size; simpa using this
      have HRO5 := Lib.hid ho5; have HS := Lib.hid hnsA; have HX5 := Lib.hid hxA; have HU5 := Lib.hid hcu; have HCG5 := Lib.hid hcc
      have HB5 : Hid (Below cb w w5) := Lib.hid (hcc.below (Nat.le_refl _) (by omega))
      clear hown hg hat hroA hnsA hxA hgc hcu hcc ho5 HRO HNS HX HU HCG
      have hla : (la ++ [(⟨1, (k : Int) + 1, 0, ⟨0, 0, 0, 0, 0⟩⟩ : ActD)]).length = k + 1 := by have := HK1.out; simp; omega
      obtain ⟨b0, off, aq, rfl, hb1, ha, z0, z1, z2, z3, z4, z5, z6, z7⟩ := na_cells (k := k) (HRO5.out.rd naC_len) (by rw [hla]; omega)
      have HAQ := Lib.hid ha
      clear ha z0 z1 z2 z3 z4 z5 z6 z7
      obtain ⟨r, hr⟩ : ∃ r, netDoN ln lp ⟨aq.k, aq.a, aq.b, aq.m⟩ = r := ⟨_, rfl⟩
      have HRG := Lib.hid hr
      have HNI2 : Hid (NetI r.1 r.2.1) := Lib.hid (by rw [← hr]; exact netI_do HNI.out _)
      have HBT := Lib.hid HNI.out.netB
      have hsw5 : w.heap.size ≤ w5.heap.size := by omega
      clear hr
      go_upto_region 7 with fail
      refine wp_region_full [0, 1, 2, 3, 4, 5, 6, 7, 8, 9, 10, 11] (fun S wx => Below w.heap.size w5 wx ∧ (∀ T, T ≠ 79 → T ≠ 49 → ∀ q cs, Blk w5 q T cs → Blk wx q T cs) ∧ (6 ∈ S ∨ NetS wx lo1 hi1 A' c' P' d' ln lp)) (fun j wa wb => match j with | 6 => ∀ q cs, Blk wa q 27 cs → Blk wb q 27 cs | 11 => BoxTurn 27 wa wb | _ => Below wa.heap.size wa wb) (fun S ii b wx => match ii with
        | 0 => b.tmps.getD 26 undef = .agg #[.slice A' ln.length c', .slice P' lp.length d']
        | 1 => b.tmps.getD 27 undef = .slice (some ⟨b0, off, none⟩) (la.length + 1) c5
        | 2 => b.tmps.getD 28 undef = .int .i64 ((k : Int) + 1)
        | 3 => b.tmps.getD 29 undef = .int .i64 (k : Int)
        | 4 => b.tmps.getD 30 undef = .pointer (some ⟨b0, off + k * 8, none⟩)
        | 5 => b.tmps.getD 31 undef = .agg #[.int .i64 aq.k, .int .i64 aq.a, .int .i64 aq.b, .int .i64 aq.m.k, .int .i64 aq.m.r, .int .i64 aq.m.v, .int .i64 aq.m.p, .int .i64 aq.m.f]
        | 6 => NetF r w.heap.size (b.tmps.getD 32 undef) wx
        | 7 => NetF r w.heap.size (b.tmps.getD 25 undef) wx
        | 8 => ∃ (A1 : Option Addr) (c1 : Nat) (P1 : Option Addr) (d1 : Nat), b.tmps.getD 25 undef = .tuple #[.agg #[.slice A1 r.1.length c1, .slice P1 r.2.1.length d1], .bool r.2.2] ∧ b.tmps.getD 33 undef = .agg #[.slice A1 r.1.length c1, .slice P1 r.2.1.length d1]
        | 9 => b.tmps.getD 34 undef = .bool r.2.2
        | 10 => ∃ (q : Nat) (cs : Array Value), b.tmps.getD 8 undef = .pointer (some ⟨q, 0, none⟩) ∧ w5.heap.size ≤ q ∧ cs.size = 2 ∧ Blk wx q 27 cs
        | 11 => ∃ (q : Nat) (A1 : Option Addr) (c1 : Nat) (P1 : Option Addr) (d1 : Nat), b.tmps.getD 8 undef = .pointer (some ⟨q, 0, none⟩) ∧ b.tmps.getD 33 undef = .agg #[.slice A1 r.1.length c1, .slice P1 r.2.1.length d1] ∧ w5.heap.size ≤ q ∧ Blk wx q 27 #[.slice A1 r.1.length c1, .slice P1 r.2.1.length d1]
        | _ => True) (by kernel_rfl) (coreB2_ok (by kernel_rfl)) ⟨(Below.refl w.heap.size _).drew, fun T _ _ q cs h => h.drew, .inr (HS.out.chg ((Chg.refl 0 0 _).drew) (.inr (Nat.zero_le _)))⟩ ?_ ?_ ?_
      · intro S b wa wb i7 j7 oj v hiS hjS hcl hi hj hij hoj hdep hE h
        simp only [List.mem_cons, List.not_mem_nil, or_false] at hi hj
        rcases hj with rfl | rfl | rfl | rfl | rfl | rfl | rfl | rfl | rfl | rfl | rfl | rfl
        all_goals obtain rfl := Option.some.inj hoj
        · rcases hi with rfl | rfl | rfl | rfl | rfl | rfl | rfl | rfl | rfl | rfl | rfl | rfl
          all_goals first | exact absurd rfl hij | exact trivial | (simp only at hE h ⊢; (first | exact trivial | exact getk' h (by decide) | (obtain ⟨A1, c1, P1, d1, e, h⟩ := h; exact ⟨A1, c1, P1, d1, getk' e (by decide), getk' h (by decide)⟩) | (obtain ⟨A1, c1, P1, d1, e, h⟩ := h; exact ⟨A1, c1, P1, d1, getk' e (by decide), (h.imp (List.mem_cons_of_mem _) fun ⟨lo', hi', h1, h2⟩ => ⟨lo', hi', h1, h2.below hE⟩)⟩) | (obtain ⟨q1, cs1, e, h1, h2, h⟩ := h; exact ⟨q1, cs1, getk' e (by decide), h1, h2, h.below hE h.lt⟩) | exact (h.below hE).slot (getk' rfl (by decide)) | (obtain ⟨q1, A1, c1, P1, d1, e, e5, h1, h⟩ := h; exact ⟨q1, A1, c1, P1, d1, getk' e (by decide), getk' e5 (by decide), h1, h.below hE h.lt⟩))) | exact absurd rfl (hdep _ rfl ⟨0, .data⟩ (by simp) rfl)
        · rcases hi with rfl | rfl | rfl | rfl | rfl | rfl | rfl | rfl | rfl | rfl | rfl | rfl
          all_goals first | exact absurd rfl hij | exact trivial | (simp only at hE h ⊢; (first | exact trivial | exact getk' h (by decide) | (obtain ⟨A1, c1, P1, d1, e, h⟩ := h; exact ⟨A1, c1, P1, d1, getk' e (by decide), getk' h (by decide)⟩) | (obtain ⟨A1, c1, P1, d1, e, h⟩ := h; exact ⟨A1, c1, P1, d1, getk' e (by decide), (h.imp (List.mem_cons_of_mem _) fun ⟨lo', hi', h1, h2⟩ => ⟨lo', hi', h1, h2.below hE⟩)⟩) | (obtain ⟨q1, cs1, e, h1, h2, h⟩ := h; exact ⟨q1, cs1, getk' e (by decide), h1, h2, h.below hE h.lt⟩) | exact (h.below hE).slot (getk' rfl (by decide)) | (obtain ⟨q1, A1, c1, P1, d1, e, e5, h1, h⟩ := h; exact ⟨q1, A1, c1, P1, d1, getk' e (by decide), getk' e5 (by decide), h1, h.below hE h.lt⟩))) | exact absurd rfl (hdep _ rfl ⟨1, .data⟩ (by simp) rfl)
        · rcases hi with rfl | rfl | rfl | rfl | rfl | rfl | rfl | rfl | rfl | rfl | rfl | rfl
          all_goals first | exact absurd rfl hij | exact trivial | (simp only at hE h ⊢; (first | exact trivial | exact getk' h (by decide) | (obtain ⟨A1, c1, P1, d1, e, h⟩ := h; exact ⟨A1, c1, P1, d1, getk' e (by decide), getk' h (by decide)⟩) | (obtain ⟨A1, c1, P1, d1, e, h⟩ := h; exact ⟨A1, c1, P1, d1, getk' e (by decide), (h.imp (List.mem_cons_of_mem _) fun ⟨lo', hi', h1, h2⟩ => ⟨lo', hi', h1, h2.below hE⟩)⟩) | (obtain ⟨q1, cs1, e, h1, h2, h⟩ := h; exact ⟨q1, cs1, getk' e (by decide), h1, h2, h.below hE h.lt⟩) | exact (h.below hE).slot (getk' rfl (by decide)) | (obtain ⟨q1, A1, c1, P1, d1, e, e5, h1, h⟩ := h; exact ⟨q1, A1, c1, P1, d1, getk' e (by decide), getk' e5 (by decide), h1, h.below hE h.lt⟩))) | exact absurd rfl (hdep _ rfl ⟨2, .data⟩ (by simp) rfl)
        · rcases hi with rfl | rfl | rfl | rfl | rfl | rfl | rfl | rfl | rfl | rfl | rfl | rfl
          all_goals first | exact absurd rfl hij | exact trivial | (simp only at hE h ⊢; (first | exact trivial | exact getk' h (by decide) | (obtain ⟨A1, c1, P1, d1, e, h⟩ := h; exact ⟨A1, c1, P1, d1, getk' e (by decide), getk' h (by decide)⟩) | (obtain ⟨A1, c1, P1, d1, e, h⟩ := h; exact ⟨A1, c1, P1, d1, getk' e (by decide), (h.imp (List.mem_cons_of_mem _) fun ⟨lo', hi', h1, h2⟩ => ⟨lo', hi', h1, h2.below hE⟩)⟩) | (obtain ⟨q1, cs1, e, h1, h2, h⟩ := h; exact ⟨q1, cs1, getk' e (by decide), h1, h2, h.below hE h.lt⟩) | exact (h.below hE).slot (getk' rfl (by decide)) | (obtain ⟨q1, A1, c1, P1, d1, e, e5, h1, h⟩ := h; exact ⟨q1, A1, c1, P1, d1, getk' e (by decide), getk' e5 (by decide), h1, h.below hE h.lt⟩))) | exact absurd rfl (hdep _ rfl ⟨3, .data⟩ (by simp) rfl)
        · rcases hi with rfl | rfl | rfl | rfl | rfl | rfl | rfl | rfl | rfl | rfl | rfl | rfl
          all_goals first | exact absurd rfl hij | exact trivial | (simp only at hE h ⊢; (first | exact trivial | exact getk' h (by decide) | (obtain ⟨A1, c1, P1, d1, e, h⟩ := h; exact ⟨A1, c1, P1, d1, getk' e (by decide), getk' h (by decide)⟩) | (obtain ⟨A1, c1, P1, d1, e, h⟩ := h; exact ⟨A1, c1, P1, d1, getk' e (by decide), (h.imp (List.mem_cons_of_mem _) fun ⟨lo', hi', h1, h2⟩ => ⟨lo', hi', h1, h2.below hE⟩)⟩) | (obtain ⟨q1, cs1, e, h1, h2, h⟩ := h; exact ⟨q1, cs1, getk' e (by decide), h1, h2, h.below hE h.lt⟩) | exact (h.below hE).slot (getk' rfl (by decide)) | (obtain ⟨q1, A1, c1, P1, d1, e, e5, h1, h⟩ := h; exact ⟨q1, A1, c1, P1, d1, getk' e (by decide), getk' e5 (by decide), h1, h.below hE h.lt⟩))) | exact absurd rfl (hdep _ rfl ⟨4, .data⟩ (by simp) rfl)
        · rcases hi with rfl | rfl | rfl | rfl | rfl | rfl | rfl | rfl | rfl | rfl | rfl | rfl
          all_goals first | exact absurd rfl hij | exact trivial | (simp only at hE h ⊢; (first | exact trivial | exact getk' h (by decide) | (obtain ⟨A1, c1, P1, d1, e, h⟩ := h; exact ⟨A1, c1, P1, d1, getk' e (by decide), getk' h (by decide)⟩) | (obtain ⟨A1, c1, P1, d1, e, h⟩ := h; exact ⟨A1, c1, P1, d1, getk' e (by decide), (h.imp (List.mem_cons_of_mem _) fun ⟨lo', hi', h1, h2⟩ => ⟨lo', hi', h1, h2.below hE⟩)⟩) | (obtain ⟨q1, cs1, e, h1, h2, h⟩ := h; exact ⟨q1, cs1, getk' e (by decide), h1, h2, h.below hE h.lt⟩) | exact (h.below hE).slot (getk' rfl (by decide)) | (obtain ⟨q1, A1, c1, P1, d1, e, e5, h1, h⟩ := h; exact ⟨q1, A1, c1, P1, d1, getk' e (by decide), getk' e5 (by decide), h1, h.below hE h.lt⟩))) | exact absurd rfl (hdep _ rfl ⟨5, .data⟩ (by simp) rfl)
        · rcases hi with rfl | rfl | rfl | rfl | rfl | rfl | rfl | rfl | rfl | rfl | rfl | rfl
          · simp only at hE h ⊢; (first | exact trivial | exact getk' h (by decide) | (obtain ⟨A1, c1, P1, d1, e, h⟩ := h; exact ⟨A1, c1, P1, d1, getk' e (by decide), getk' h (by decide)⟩) | (obtain ⟨A1, c1, P1, d1, e, h⟩ := h; exact ⟨A1, c1, P1, d1, getk' e (by decide), (.inl (by simp))⟩) | (obtain ⟨q1, cs1, e, h1, h2, h⟩ := h; exact ⟨q1, cs1, getk' e (by decide), h1, h2, hE _ _ h⟩))
          · simp only at hE h ⊢; (first | exact trivial | exact getk' h (by decide) | (obtain ⟨A1, c1, P1, d1, e, h⟩ := h; exact ⟨A1, c1, P1, d1, getk' e (by decide), getk' h (by decide)⟩) | (obtain ⟨A1, c1, P1, d1, e, h⟩ := h; exact ⟨A1, c1, P1, d1, getk' e (by decide), (.inl (by simp))⟩) | (obtain ⟨q1, cs1, e, h1, h2, h⟩ := h; exact ⟨q1, cs1, getk' e (by decide), h1, h2, hE _ _ h⟩))
          · simp only at hE h ⊢; (first | exact trivial | exact getk' h (by decide) | (obtain ⟨A1, c1, P1, d1, e, h⟩ := h; exact ⟨A1, c1, P1, d1, getk' e (by decide), getk' h (by decide)⟩) | (obtain ⟨A1, c1, P1, d1, e, h⟩ := h; exact ⟨A1, c1, P1, d1, getk' e (by decide), (.inl (by simp))⟩) | (obtain ⟨q1, cs1, e, h1, h2, h⟩ := h; exact ⟨q1, cs1, getk' e (by decide), h1, h2, hE _ _ h⟩))
          · simp only at hE h ⊢; (first | exact trivial | exact getk' h (by decide) | (obtain ⟨A1, c1, P1, d1, e, h⟩ := h; exact ⟨A1, c1, P1, d1, getk' e (by decide), getk' h (by decide)⟩) | (obtain ⟨A1, c1, P1, d1, e, h⟩ := h; exact ⟨A1, c1, P1, d1, getk' e (by decide), (.inl (by simp))⟩) | (obtain ⟨q1, cs1, e, h1, h2, h⟩ := h; exact ⟨q1, cs1, getk' e (by decide), h1, h2, hE _ _ h⟩))
          · simp only at hE h ⊢; (first | exact trivial | exact getk' h (by decide) | (obtain ⟨A1, c1, P1, d1, e, h⟩ := h; exact ⟨A1, c1, P1, d1, getk' e (by decide), getk' h (by decide)⟩) | (obtain ⟨A1, c1, P1, d1, e, h⟩ := h; exact ⟨A1, c1, P1, d1, getk' e (by decide), (.inl (by simp))⟩) | (obtain ⟨q1, cs1, e, h1, h2, h⟩ := h; exact ⟨q1, cs1, getk' e (by decide), h1, h2, hE _ _ h⟩))
          · simp only at hE h ⊢; (first | exact trivial | exact getk' h (by decide) | (obtain ⟨A1, c1, P1, d1, e, h⟩ := h; exact ⟨A1, c1, P1, d1, getk' e (by decide), getk' h (by decide)⟩) | (obtain ⟨A1, c1, P1, d1, e, h⟩ := h; exact ⟨A1, c1, P1, d1, getk' e (by decide), (.inl (by simp))⟩) | (obtain ⟨q1, cs1, e, h1, h2, h⟩ := h; exact ⟨q1, cs1, getk' e (by decide), h1, h2, hE _ _ h⟩))
          · exact absurd rfl hij
          · exact absurd rfl (hdep _ rfl ⟨6, .data⟩ (by simp) rfl)
          · exact absurd (hcl 7 _ (hcl 8 _ hiS rfl ⟨7, .data⟩ (by simp) rfl) rfl ⟨6, .data⟩ (by simp) rfl) hjS
          · exact absurd (hcl 7 _ (hcl 9 _ hiS rfl ⟨7, .data⟩ (by simp) rfl) rfl ⟨6, .data⟩ (by simp) rfl) hjS
          · simp only at hE h ⊢; (first | exact trivial | exact getk' h (by decide) | (obtain ⟨A1, c1, P1, d1, e, h⟩ := h; exact ⟨A1, c1, P1, d1, getk' e (by decide), getk' h (by decide)⟩) | (obtain ⟨A1, c1, P1, d1, e, h⟩ := h; exact ⟨A1, c1, P1, d1, getk' e (by decide), (.inl (by simp))⟩) | (obtain ⟨q1, cs1, e, h1, h2, h⟩ := h; exact ⟨q1, cs1, getk' e (by decide), h1, h2, hE _ _ h⟩))
          · exact absurd rfl (hdep _ rfl ⟨6, .chain⟩ (by simp) rfl)
        · rcases hi with rfl | rfl | rfl | rfl | rfl | rfl | rfl | rfl | rfl | rfl | rfl | rfl
          all_goals first | exact absurd rfl hij | exact trivial | (simp only at hE h ⊢; (first | exact trivial | exact getk' h (by decide) | (obtain ⟨A1, c1, P1, d1, e, h⟩ := h; exact ⟨A1, c1, P1, d1, getk' e (by decide), getk' h (by decide)⟩) | (obtain ⟨A1, c1, P1, d1, e, h⟩ := h; exact ⟨A1, c1, P1, d1, getk' e (by decide), (h.imp (List.mem_cons_of_mem _) fun ⟨lo', hi', h1, h2⟩ => ⟨lo', hi', h1, h2.below hE⟩)⟩) | (obtain ⟨q1, cs1, e, h1, h2, h⟩ := h; exact ⟨q1, cs1, getk' e (by decide), h1, h2, h.below hE h.lt⟩) | exact (h.below hE).slot (getk' rfl (by decide)) | (obtain ⟨q1, A1, c1, P1, d1, e, e5, h1, h⟩ := h; exact ⟨q1, A1, c1, P1, d1, getk' e (by decide), getk' e5 (by decide), h1, h.below hE h.lt⟩))) | exact absurd rfl (hdep _ rfl ⟨7, .data⟩ (by simp) rfl)
        · rcases hi with rfl | rfl | rfl | rfl | rfl | rfl | rfl | rfl | rfl | rfl | rfl | rfl
          all_goals first | exact absurd rfl hij | exact trivial | (simp only at hE h ⊢; (first | exact trivial | exact getk' h (by decide) | (obtain ⟨A1, c1, P1, d1, e, h⟩ := h; exact ⟨A1, c1, P1, d1, getk' e (by decide), getk' h (by decide)⟩) | (obtain ⟨A1, c1, P1, d1, e, h⟩ := h; exact ⟨A1, c1, P1, d1, getk' e (by decide), (h.imp (List.mem_cons_of_mem _) fun ⟨lo', hi', h1, h2⟩ => ⟨lo', hi', h1, h2.below hE⟩)⟩) | (obtain ⟨q1, cs1, e, h1, h2, h⟩ := h; exact ⟨q1, cs1, getk' e (by decide), h1, h2, h.below hE h.lt⟩) | exact (h.below hE).slot (getk' rfl (by decide)) | (obtain ⟨q1, A1, c1, P1, d1, e, e5, h1, h⟩ := h; exact ⟨q1, A1, c1, P1, d1, getk' e (by decide), getk' e5 (by decide), h1, h.below hE h.lt⟩))) | exact absurd rfl (hdep _ rfl ⟨8, .data⟩ (by simp) rfl)
        · rcases hi with rfl | rfl | rfl | rfl | rfl | rfl | rfl | rfl | rfl | rfl | rfl | rfl
          all_goals first | exact absurd rfl hij | exact trivial | (simp only at hE h ⊢; (first | exact trivial | exact getk' h (by decide) | (obtain ⟨A1, c1, P1, d1, e, h⟩ := h; exact ⟨A1, c1, P1, d1, getk' e (by decide), getk' h (by decide)⟩) | (obtain ⟨A1, c1, P1, d1, e, h⟩ := h; exact ⟨A1, c1, P1, d1, getk' e (by decide), (h.imp (List.mem_cons_of_mem _) fun ⟨lo', hi', h1, h2⟩ => ⟨lo', hi', h1, h2.below hE⟩)⟩) | (obtain ⟨q1, cs1, e, h1, h2, h⟩ := h; exact ⟨q1, cs1, getk' e (by decide), h1, h2, h.below hE h.lt⟩) | exact (h.below hE).slot (getk' rfl (by decide)) | (obtain ⟨q1, A1, c1, P1, d1, e, e5, h1, h⟩ := h; exact ⟨q1, A1, c1, P1, d1, getk' e (by decide), getk' e5 (by decide), h1, h.below hE h.lt⟩))) | exact absurd rfl (hdep _ rfl ⟨9, .data⟩ (by simp) rfl)
        · rcases hi with rfl | rfl | rfl | rfl | rfl | rfl | rfl | rfl | rfl | rfl | rfl | rfl
          all_goals first | exact absurd rfl hij | exact trivial | (simp only at hE h ⊢; (first | exact trivial | exact getk' h (by decide) | (obtain ⟨A1, c1, P1, d1, e, h⟩ := h; exact ⟨A1, c1, P1, d1, getk' e (by decide), getk' h (by decide)⟩) | (obtain ⟨A1, c1, P1, d1, e, h⟩ := h; exact ⟨A1, c1, P1, d1, getk' e (by decide), (h.imp (List.mem_cons_of_mem _) fun ⟨lo', hi', h1, h2⟩ => ⟨lo', hi', h1, h2.below hE⟩)⟩) | (obtain ⟨q1, cs1, e, h1, h2, h⟩ := h; exact ⟨q1, cs1, getk' e (by decide), h1, h2, h.below hE h.lt⟩) | exact (h.below hE).slot (getk' rfl (by decide)) | (obtain ⟨q1, A1, c1, P1, d1, e, e5, h1, h⟩ := h; exact ⟨q1, A1, c1, P1, d1, getk' e (by decide), getk' e5 (by decide), h1, h.below hE h.lt⟩))) | exact absurd rfl (hdep _ rfl ⟨10, .data⟩ (by simp) rfl)
        · rcases hi with rfl | rfl | rfl | rfl | rfl | rfl | rfl | rfl | rfl | rfl | rfl | rfl
          all_goals first | exact absurd rfl hij | exact trivial | (simp only at hE h ⊢; (first | exact trivial | exact getk' h (by decide) | (obtain ⟨A1, c1, P1, d1, e, h⟩ := h; exact ⟨A1, c1, P1, d1, getk' e (by decide), getk' h (by decide)⟩) | (obtain ⟨A1, c1, P1, d1, e, h⟩ := h; exact ⟨A1, c1, P1, d1, getk' e (by decide), (h.imp (List.mem_cons_of_mem _) fun ⟨lo', hi', h1, h2⟩ => ⟨lo', hi', h1, h2.turn hE⟩)⟩) | (obtain ⟨q1, cs1, e, h1, h2, h⟩ := h; obtain ⟨cs2, h3, h4⟩ := hE.box h; exact ⟨q1, cs2, getk' e (by decide), h1, h3.trans h2, h4⟩) | exact (h.turn hE).slot (getk' rfl (by decide)))) | exact absurd rfl (hdep _ rfl ⟨11, .data⟩ (by simp) rfl)
      · intro S j7 o hj hjS hcl ho a' w' hC hsame hdep
        have hW0 : w.heap.size ≤ w5.heap.size := hsw5
        have hz : w5.heap.size ≤ w'.heap.size := hC.1.size
        simp only [List.mem_cons, List.not_mem_nil, or_false] at hj
        rcases hj with rfl | rfl | rfl | rfl | rfl | rfl | rfl | rfl | rfl | rfl | rfl | rfl
        all_goals obtain rfl := Option.some.inj ho
        · have hs : a'.tmps.getD 5 undef = .pointer (some ⟨w1.heap.size, 0, none⟩) := hsame 5 (by rfl)
          have zz := (hC.2.1 _ (by decide) (by decide) _ _ HX5.out).cell
          refine wp_val (w2 := w') (.agg #[.slice A' ln.length c', .slice P' lp.length d']) (fun K hK => ?_) ⟨_, rfl, ⟨hC.1, hC.2.1, hC.2.2.imp (List.mem_cons_of_mem _) id⟩, Below.refl _ _, fun b hb hb2 => hb 26 rfl⟩
          clear hsame hdep
          unfold Oper.wp
          simp [execOp, Act.eval, go_sem, hs, zz]
          exact hK
        · have hs : a'.tmps.getD 6 undef = .slice (some ⟨b0, off, none⟩) (la.length + 1) c5 := hsame 6 (by rfl)
          refine wp_val (w2 := w') (.slice (some ⟨b0, off, none⟩) (la.length + 1) c5) (fun K hK => ?_) ⟨_, rfl, ⟨hC.1, hC.2.1, hC.2.2.imp (List.mem_cons_of_mem _) id⟩, Below.refl _ _, fun b hb hb2 => hb 27 rfl⟩
          clear hsame hdep
          unfold Oper.wp
          simp [execOp, Act.eval, go_sem, hs]
          exact hK
        · have hs : a'.tmps.getD 7 undef = .int .i64 ((k : Int) + 1) := hsame 7 (by rfl)
          refine wp_val (w2 := w') (.int .i64 ((k : Int) + 1)) (fun K hK => ?_) ⟨_, rfl, ⟨hC.1, hC.2.1, hC.2.2.imp (List.mem_cons_of_mem _) id⟩, Below.refl _ _, fun b hb hb2 => hb 28 rfl⟩
          clear hsame hdep
          unfold Oper.wp
          simp [execOp, Act.eval, go_sem, hs]
          exact hK
        · have e1 : a'.tmps.getD 28 undef = .int .i64 ((k : Int) + 1) := hdep ⟨2, .data⟩ (by simp) rfl
          have hkk : IntKind.i64.wrap (k : Int) = (k : Int) := low_i64 _ (by omega) (by omega)
          refine wp_val (w2 := w') (.int .i64 (k : Int)) (fun K hK => ?_) ⟨_, rfl, ⟨hC.1, hC.2.1, hC.2.2.imp (List.mem_cons_of_mem _) id⟩, Below.refl _ _, fun b hb hb2 => hb 29 rfl⟩
          clear hsame hdep
          unfold Oper.wp
          simp [execOp, Act.eval, go_sem, e1, hkk]
          exact hK
        · have e1 : a'.tmps.getD 27 undef = .slice (some ⟨b0, off, none⟩) (la.length + 1) c5 := hdep ⟨1, .data⟩ (by simp) rfl
          have e2 : a'.tmps.getD 29 undef = .int .i64 (k : Int) := hdep ⟨3, .data⟩ (by simp) rfl
          have hkl : (k : Int) < (la.length : Int) + 1 := by have := HK1.out; omega
          refine wp_val (w2 := w') (.pointer (some ⟨b0, off + k * 8, none⟩)) (fun K hK => ?_) ⟨_, rfl, ⟨hC.1, hC.2.1, hC.2.2.imp (List.mem_cons_of_mem _) id⟩, Below.refl _ _, fun b hb hb2 => hb 30 rfl⟩
          clear hsame hdep
          unfold Oper.wp
          simp [execOp, Act.eval, go_sem, e1, e2, hkl]
          exact hK
        · have e1 : a'.tmps.getD 30 undef = .pointer (some ⟨b0, off + k * 8, none⟩) := hdep ⟨4, .data⟩ (by simp) rfl
          have hrq := (OwnL.keepT HRO5.out (hC.2.1 _ (by decide) (by decide))).rd naC_len
          obtain ⟨b0', off', aq', eq0, _, ha', y0, y1, y2, y3, y4, y5, y6, y7⟩ := na_cells (k := k) hrq (by rw [hla]; omega)
          simp only [Option.some.injEq, Addr.mk.injEq, and_true] at eq0
          obtain ⟨rfl, rfl⟩ := eq0
          obtain rfl : aq = aq' := by rw [HAQ.out] at ha'; injection ha' with h
          refine wp_val (w2 := w') (.agg #[.int .i64 aq.k, .int .i64 aq.a, .int .i64 aq.b, .int .i64 aq.m.k, .int .i64 aq.m.r, .int .i64 aq.m.v, .int .i64 aq.m.p, .int .i64 aq.m.f]) (fun K hK => ?_) ⟨_, rfl, ⟨hC.1, hC.2.1, hC.2.2.imp (List.mem_cons_of_mem _) id⟩, Below.refl _ _, fun b hb hb2 => hb 31 rfl⟩
          clear hsame hdep
          unfold Oper.wp
          simp [execOp, Act.eval, go_sem, e1, y0, y1, y2, y3, y4, y5, y6, y7]
          exact hK
        · have e1 : a'.tmps.getD 26 undef = .agg #[.slice A' ln.length c', .slice P' lp.length d'] := hdep ⟨0, .data⟩ (by simp) rfl
          have e2 : a'.tmps.getD 31 undef = .agg #[.int .i64 aq.k, .int .i64 aq.a, .int .i64 aq.b, .int .i64 aq.m.k, .int .i64 aq.m.r, .int .i64 aq.m.v, .int .i64 aq.m.p, .int .i64 aq.m.f] := hdep ⟨5, .data⟩ (by simp) rfl
          have nets := hC.2.2.resolve_left hjS
          have hz1 : lo1 ≤ w'.heap.size := Nat.le_trans nets.hl nets.hh
          refine wp_call (fun u wq => NetF r w.heap.size u wq ∧ Below w.heap.size w' wq ∧ ∀ T, T ≠ 79 → T ≠ 49 → ∀ q cs, Blk w' q T cs → Blk wq q T cs) (fun K hK => ?_) ?_
          · clear hsame hdep
            unfold Oper.wp
            simp [Act.eval, e1, e2, go_sem]
            refine (l17Do_any lo1 hi1 _ _ _ _ ln lp _ _ _ _ _ nets HBT.out).mono ?_
            rintro e w3' ⟨A7, c7, P7, d7, hi7, he, hs7, hc7, hk7⟩
            rw [HRG.out] at he hs7
            subst he
            exact hK _ _ ⟨⟨A7, c7, P7, d7, lo1, hi7, rfl, hlo1, hs7⟩, hc7.below hlo1 (by omega), hk7⟩
          · rintro u w3' ⟨hnf, hb3, hk3⟩
            exact ⟨_, rfl, ⟨hC.1.trans hb3, fun T h1 h2 q cs h => hk3 T h1 h2 q cs (hC.2.1 T h1 h2 q cs h), .inl (by simp)⟩, hk3 _ (by decide) (by decide), fun b hb _ => hnf.slot (hb 32 rfl)⟩
        · obtain ⟨A7, c7, P7, d7, lo7, hi7, e1, hlo7, hs7⟩ := hdep ⟨6, .data⟩ (by simp) rfl
          refine wp_val (w2 := w') (.tuple #[.agg #[.slice A7 r.1.length c7, .slice P7 r.2.1.length d7], .bool r.2.2]) (fun K hK => ?_) ⟨_, rfl, ⟨hC.1, hC.2.1, hC.2.2.imp (List.mem_cons_of_mem _) id⟩, Below.refl _ _, fun b hb hb2 => ⟨A7, c7, P7, d7, lo7, hi7, hb 25 rfl, hlo7, hs7⟩⟩
          clear hsame hdep
          unfold Oper.wp
          simp [execOp, Act.eval, go_sem, e1]
          exact hK
        · obtain ⟨A7, c7, P7, d7, lo7, hi7, e1, hlo7, hs7⟩ := hdep ⟨7, .data⟩ (by simp) rfl
          refine wp_val (w2 := w') (.agg #[.slice A7 r.1.length c7, .slice P7 r.2.1.length d7]) (fun K hK => ?_) ⟨_, rfl, ⟨hC.1, hC.2.1, hC.2.2.imp (List.mem_cons_of_mem _) id⟩, Below.refl _ _, fun b hb hb2 => ⟨A7, c7, P7, d7, (hb2 25 (by intro d h; cases h; decide)).trans e1, hb 33 rfl⟩⟩
          clear hsame hdep
          unfold Oper.wp
          simp [execOp, Act.eval, go_sem, e1]
          exact hK
        · obtain ⟨A7, c7, P7, d7, lo7, hi7, e1, hlo7, hs7⟩ := hdep ⟨7, .data⟩ (by simp) rfl
          refine wp_val (w2 := w') (.bool r.2.2) (fun K hK => ?_) ⟨_, rfl, ⟨hC.1, hC.2.1, hC.2.2.imp (List.mem_cons_of_mem _) id⟩, Below.refl _ _, fun b hb hb2 => hb 34 rfl⟩
          clear hsame hdep
          unfold Oper.wp
          simp [execOp, Act.eval, go_sem, e1]
          exact hK
        · have hnew := heap_alloc_new w' (.cells #[.slice none 0 0, .slice none 0 0] 27)
          have hbl' : Below w'.heap.size w' (w'.alloc (.cells #[.slice none 0 0, .slice none 0 0] 27)) := (Below.refl _ _).alloc (Nat.le_refl _) _
          have hbl := hbl'.mono (show w.heap.size ≤ w'.heap.size by omega)
          refine wp_val (w2 := w'.alloc (.cells #[.slice none 0 0, .slice none 0 0] 27)) (.pointer (some ⟨w'.heap.size, 0, none⟩)) (fun K hK => ?_) ⟨_, rfl, ⟨hC.1.trans hbl, fun T h1 h2 q cs h => (hC.2.1 T h1 h2 q cs h).below hbl' (hC.2.1 T h1 h2 q cs h).lt, hC.2.2.imp (List.mem_cons_of_mem _) fun h => h.below hbl'⟩, hbl', fun b hb _ => ⟨w'.heap.size, _, hb 8 rfl, hz, rfl, show Blk _ _ _ _ from hnew⟩⟩
          clear hsame hdep hnew hbl hbl'
          unfold Oper.wp
          simp [execOp, go_sem]
          exact hK
        · obtain ⟨q0, cs0, e1, hq0, hsz, hblk⟩ := hdep ⟨10, .data⟩ (by simp) rfl
          obtain ⟨A7, c7, P7, d7, e3, e2⟩ := hdep ⟨8, .data⟩ (by simp) rfl
          clear e3
          obtain ⟨u0, u1, rfl⟩ := two_cells hsz
          have zz := hblk.cell
          have ff := hblk.frozen
          obtain ⟨w9, hw9⟩ : ∃ z, z = ((w'.setCell ⟨q0, 0, none⟩ (.slice A7 r.1.length c7)).setCell ⟨q0, 1, none⟩ (.slice P7 r.2.1.length d7)) := ⟨_, rfl⟩
          have hchg : Chg q0 (q0 + 1) w' w9 := by rw [hw9]; (repeat (first | with_reducible refine Chg.setCell ?_ (by first | exact Nat.le_refl _ | (simp; done) | (simp; omega)) (by first | (simp; done) | (simp; omega)) _ | with_reducible refine Chg.alloc ?_ _ | with_reducible refine Chg.drew ?_)); (with_reducible exact Chg.refl _ _ _)
          have hblk2 : Blk w9 q0 27 #[.slice A7 r.1.length c7, .slice P7 r.2.1.length d7] := by
            rw [hw9]
            have hb := (hblk.set_ 0 (.slice A7 r.1.length c7)).set_ 1 (.slice P7 r.2.1.length d7)
            simp only [List.setIfInBounds_toArray, List.set_cons_zero, List.set_cons_succ] at hb
            exact hb
          have hturn := BoxTurn.of_blk hblk hblk2 rfl hchg
          have hcls : (fun S wx => Below w.heap.size w5 wx ∧ (∀ T, T ≠ 79 → T ≠ 49 → ∀ q cs, Blk w5 q T cs → Blk wx q T cs) ∧ (6 ∈ S ∨ NetS wx lo1 hi1 A' c' P' d' ln lp)) (11 :: S) w9 := ⟨hC.1.trans (hchg.below (Nat.le_trans hW0 hq0) (by omega)), fun T h1 h2 q cs h => (hC.2.1 T h1 h2 q cs h).off hchg (.inl (Nat.lt_of_lt_of_le h.lt hq0)), hC.2.2.imp (List.mem_cons_of_mem _) fun h => h.turn hturn⟩
          refine wp_val (w2 := w9) undef (fun K hK => ?_) ⟨_, rfl, hcls, hturn, fun b _ hb => ⟨q0, A7, c7, P7, d7, (hb 8 (by intro d h; cases h)).trans e1, (hb 33 (by intro d h; cases h)).trans e2, hq0, hblk2⟩⟩
          rw [hw9] at hK
          clear hsame hdep hchg hblk2 hturn hcls hw9 hblk
          unfold Oper.wp
          simp [execOp, Act.eval, e1, e2, go_sem, zz, ff]
          exact hK
      · intro S a' w' hall hC ha hP
        obtain ⟨q0, A7, c7, P7, d7, t1, f1, hq0, hblk⟩ := hP 11 (by simp)
        obtain ⟨A8, c8, P8, d8, f3, f2⟩ := hP 8 (by simp)
        obtain ⟨A9, c9, P9, d9, lo9, hi9, f4, hlo9, hs9⟩ := hP 7 (by simp)
        have t4 : a'.tmps.getD 34 undef = .bool r.2.2 := hP 9 (by simp)
        clear hP
        have ex := f1.symm.trans f2
        simp only [Value.agg.injEq, Array.mk.injEq, List.cons.injEq, Value.slice.injEq, true_and, and_true] at ex
        obtain ⟨⟨rfl, rfl⟩, rfl, rfl⟩ := ex
        have ey := f3.symm.trans f4
        simp only [Value.tuple.injEq, Value.agg.injEq, Array.mk.injEq, List.cons.injEq, Value.slice.injEq, true_and, and_true] at ey
        obtain ⟨⟨rfl, rfl⟩, rfl, rfl⟩ := ey
        clear f1 f2 f3 f4
        simp only [coreOps, List.filterMap_cons, List.filterMap_nil, List.getElem?_cons_zero, List.getElem?_cons_succ, fillA, slotOf, Act.put, t1, t4] at ha
        generalize a'.tmps.getD 26 undef = u26 at ha
        generalize a'.tmps.getD 27 undef = u27 at ha
        generalize a'.tmps.getD 28 undef = u28 at ha
        generalize a'.tmps.getD 29 undef = u29 at ha
        generalize a'.tmps.getD 30 undef = u30 at ha
        generalize a'.tmps.getD 31 undef = u31 at ha
        generalize a'.tmps.getD 32 undef = u32 at ha
        generalize a'.tmps.getD 25 undef = u25 at ha
        generalize a'.tmps.getD 33 undef = u33 at ha
        subst ha
        have HK := Lib.hid hblk
        have HF := Lib.hid hs9
        have HC1 := Lib.hid hC.1
        have HC2 := Lib.hid hC.2.1
        clear hblk hs9 hC hall
        show wpAny _ _ _ _ 1 _ _ _
        refine wpAny_ready (rs := [12]) (by kernel_rfl) (by simp) ?_
        refine AllReady.cons rfl (fun K hK => ?_) AllReady.nil
        go_simp
        refine hK _ _ ?_
        clear hK K
        refine wpAny_done (by kernel_rfl) ?_ _
        have cez := HK.out.cell
        have lbz := HK.out.lt
        have HX6 := Lib.hid (HC2.out _ (by decide) (by decide) _ _ HX5.out)
        have HRO6 := Lib.hid (OwnL.wide (OwnL.keepT HRO5.out (HC2.out _ (by decide) (by decide))) (Nat.le_refl _) (HC1.out.size))
        have HU6 := Lib.hid (HU5.out.below HC1.out hlt (by omega))
        have HCG6 : Hid (Chg cb (cb + 1) w w') := Lib.hid ⟨HC1.out.os.trans HCG5.out.os, HC1.out.tape.trans HCG5.out.tape, HC1.out.output.trans HCG5.out.output, Nat.le_trans HCG5.out.size HC1.out.size, fun q h1 h2 => (HC1.out.block q h1).trans (HCG5.out.block q h1 h2)⟩
        have cex := HX6.out.cell
        have fzx := HX6.out.frozen
        have lbx := HX6.out.lt
        have D : Chg w1.heap.size (w1.heap.size + 1) w' ((w'.setCell ⟨w1.heap.size, 0, none⟩ (.slice A7 r.1.length c7)).setCell ⟨w1.heap.size, 1, none⟩ (.slice P7 r.2.1.length d7)) := by (repeat (first | with_reducible refine Chg.setCell ?_ (by first | exact Nat.le_refl _ | (simp; done) | (simp; omega)) (by first | (simp; done) | (simp; omega)) _ | with_reducible refine Chg.alloc ?_ _ | with_reducible refine Chg.drew ?_)); (with_reducible exact Chg.refl _ _ _)
        have HXN : Hid (Blk ((w'.setCell ⟨w1.heap.size, 0, none⟩ (.slice A7 r.1.length c7)).setCell ⟨w1.heap.size, 1, none⟩ (.slice P7 r.2.1.length d7)) w1.heap.size 27 #[.slice A7 r.1.length c7, .slice P7 r.2.1.length d7]) := Lib.hid (by
          have h := (HX6.out.set_ 0 (.slice A7 r.1.length c7)).set_ 1 (.slice P7 r.2.1.length d7)
          simpa using h)
        have HFN := Lib.hid (HF.out.box HX6.out (by decide) (by decide) D)
        have HRON := Lib.hid (OwnL.wide (OwnL.keepT HRO6.out fun q cs hq => Blk.stay HX6.out D (by decide) hq) (Nat.le_refl _) D.size)
        have HUN := Lib.hid (HU6.out.chg D (by omega))
        have HCN := Lib.hid (HCG6.out.trans_topA (by omega) D)
        have hszN : w1.heap.size < ((w'.setCell ⟨w1.heap.size, 0, none⟩ (.slice A7 r.1.length c7)).setCell ⟨w1.heap.size, 1, none⟩ (.slice P7 r.2.1.length d7)).heap.size := by have := D.size; omega
        clear D
        go_wp2_with fail
        go_roundw
        case rel => exact ⟨k + 1, la ++ [⟨1, (k : Int) + 1, 0, ⟨0, 0, 0, 0, 0⟩⟩], _, c5, r.1, r.2.1, A7, c7, P7, d7, lo9, hi9, ⟨by have := HK1.out; simp; omega, by omega⟩, by go_num, by simp, hlo9, HNI2.out, HFN.out, HXN.out, HRON.out, HUN.out, HCN.out, hszN⟩
        case measure => simp [intOf]; omega
    · obtain rfl : k = 3 := by omega
      go_wp2_with fail
      refine (l1Below_any cb A n c m _ HU.out (by omega)).mono ?_
      rintro e w4 ⟨v, rfl, ⟨j, rfl, hj0, hj1⟩, hg, hu⟩
      have HNS4 := Lib.hid (HNS.out.chg hg (.inr (by omega)))
      have HX4 := Lib.hid (show Blk w4 w1.heap.size _ _ from (hg.block _ hlx (.inr (by omega))).trans HX.out)
      have HRO4 := Lib.hid ((HRO.out.chg hg (.inr (by omega))).wide (Nat.le_refl _) hg.size)
      have HCG4 := Lib.hid (HCG.out.trans hg)
      have HU4 := Lib.hid hu
      have hs4 : w1.heap.size < w4.heap.size := HX4.out.lt
      clear hg hu HNS HX HRO HCG HU
      obtain ⟨k0, rfl⟩ := Int.eq_ofNat_of_zero_le hj0
      obtain ⟨mm, hmm⟩ : ∃ mm : Int, mm = 3 + (if 0 < m then m - 1 else 0) := ⟨_, rfl⟩
      have hk0 : (la.length : Int) + k0 ≤ mm := by have := HK1.out; omega
      have hmb : mm ≤ 1003 := by rw [hmm]; split <;> omega
      have HMM := Lib.hid hmm
      clear hmm hj0 hj1
      go_wp2_with fail
      go_loopw [6, 10] (fun lv iv wr => ∃ (k : Nat) (la : List ActD) (Al : Option Addr) (cl : Nat) (ln : List NodeD) (lp : List NMsgD) (A' : Option Addr) (c' : Nat) (P' : Option Addr) (d' lo1 hi1 : Nat), (la.length : Int) + k ≤ mm ∧ iv = .int .i64 (k : Int) ∧ lv = .slice Al la.length cl ∧ w.heap.size ≤ lo1 ∧ NetI ln lp ∧ NetS wr lo1 hi1 A' c' P' d' ln lp ∧
          Blk wr w1.heap.size 27 #[.slice A' ln.length c', .slice P' lp.length d'] ∧ OwnL naC 8 51 wr w.heap.size wr.heap.size Al la.length cl la ∧ Cur wr cb A n c ∧ Chg cb (cb + 1) w wr ∧ w1.heap.size < wr.heap.size) (fun _ iv _ => (intOf iv).toNat)
      case atStart => exact ⟨k0, la, _, cl, ln, lp, A', c', P', d', lo1, hi1, hk0, rfl, rfl, hlo1, HNI.out, HNS4.out, HX4.out, HRO4.out, HU4.out, HCG4.out, hs4⟩
      case round =>
        clear HNS4 HX4 HRO4 HU4 HCG4 HNI hlx hsx hsw hlo1
        obtain ⟨k, la, Al, cl, ln, lp, A', c', P', d', lo1, hi1, hk, rfl, rfl, hlo1, hni, hns, hx, hro, hu, hcg, hsx⟩ := hrel
        have HNI := Lib.hid hni; have HNS := Lib.hid hns; have HX := Lib.hid hx; have HRO := Lib.hid hro; have HU := Lib.hid hu; have HCG := Lib.hid hcg
        have hsw := hcg.size
        have hlx := hx.lt
        clear hni hns hx hro hu hcg
        obtain ⟨h3, h150⟩ := HNI.out.b3
        have H3 := Lib.hid h3
        clear h3
        by_cases hkn : 0 < k
        · go_upto_region 12 with fail
          have cex := HX.out.cell
          go_wp2_with fail
          refine (l17Act_any cb A n c lo1 hi1 A' c' P' lp.length d' ln _ HU.out (by omega) HNS.out.hh H3.out (by omega) HNS.out.nodes.own).mono ?_
          rintro e w6 ⟨v, rfl, ⟨a, rfl⟩, hg, hu⟩
          have HNS6 := Lib.hid (HNS.out.chg hg (.inr (by omega)))
          have HX6 := Lib.hid (show Blk w6 w1.heap.size _ _ from (hg.block _ hlx (.inr (by omega))).trans HX.out)
          have HRO6 := Lib.hid ((HRO.out.chg hg (.inr (by omega))).wide (Nat.le_refl _) hg.size)
          have HCG6 := Lib.hid (HCG.out.trans hg)
          have HU6 := Lib.hid hu
          have hs6 := hg.size
          clear hg hu HNS HX HRO HCG HU cex
          unfold actA
          go_upto_region 13 with fail
          obtain ⟨w7, hw7⟩ : ∃ q, q = w6.alloc (.cells #[.int .i64 a.k, .int .i64 a.a, .int .i64 a.b, .int .i64 a.m.k, .int .i64 a.m.r, .int .i64 a.m.v, .int .i64 a.m.p, .int .i64 a.m.f] 51) := ⟨_, rfl⟩
          rw [← hw7]
          have hb : Below w6.heap.size w6 w7 := by rw [hw7]; exact (Below.refl _ _).alloc (Nat.le_refl _) _
          have hV : Blk w7 w6.heap.size 51 #[.int .i64 a.k, .int .i64 a.a, .int .i64 a.b, .int .i64 a.m.k, .int .i64 a.m.r, .int .i64 a.m.v, .int .i64 a.m.p, .int .i64 a.m.f] := by rw [hw7]; exact heap_alloc_new w6 _
          have hs7 : w6.heap.size + 1 ≤ w7.heap.size := hV.lt
          have HV7 := Lib.hid hV
          have HNS7 := Lib.hid (HNS6.out.below hb)
          have HX7 := Lib.hid (HX6.out.below hb HX6.out.lt)
          have HRO7 := Lib.hid ((HRO6.out.below hb (Nat.le_refl _)).wide (hi' := w6.heap.size) (Nat.le_refl _) (Nat.le_refl _))
          have HCG7 := Lib.hid (HCG6.out.below_trans hb)
          have HU7 := Lib.hid (HU6.out.below hb HU6.out.lt (Nat.le_refl _))
          clear hw7 hb hV HNS6 HX6 HRO6 HCG6 HU6
          have vg := HV7.out.cell
          have vl := HV7.out.lt
          have hla : la.length ≤ 1003 := by omega
          go_wp2_with (at_builtin; refine wpList_app_rd _ rfl _ _ _ rfl w.heap.size 51 i0 _ 8 64 Try.underlying30 hi hz0 hz1 hz2 rfl (by decide) (.slice Al la.length cl) la.length (la.flatMap naC) rfl (by exact (HRO7.out.owns naC_len).alloc _) _ _ 1 1 _ rfl (by exact Rd.oneA w7 a _ (by first | rfl | simp)) (naC_oneS _) (by unfold maxLen; omega) (by omega) (by first | (simp; done) | (simp; omega)) ?_)
          intro v2 w5 hown hg hat
          have hroA := (HRO7.out.below ((Below.refl _ _).alloc (Nat.le_refl _) (.cells #[.int .i64 a.k, .int .i64 a.a, .int .i64 a.b, .int .i64 a.m.k, .int .i64 a.m.r, .int .i64 a.m.v, .int .i64 a.m.p, .int .i64 a.m.f] 51)) (by omega)).wide (lo' := w.heap.size) (hi' := (w7.alloc (.cells #[.int .i64 a.k, .int .i64 a.a, .int .i64 a.b, .int .i64 a.m.k, .int .i64 a.m.r, .int .i64 a.m.v, .int .i64 a.m.p, .int .i64 a.m.f] 51)).heap.size) (Nat.le_refl _) (by first | (simp; done) | (simp; omega))
          have hvA : Blk w5 w6.heap.size 51 #[.int .i64 a.k, .int .i64 a.a, .int .i64 a.b, .int .i64 a.m.k, .int .i64 a.m.r, .int .i64 a.m.v, .int .i64 a.m.p, .int .i64 a.m.f] := (hg.block _ (by simp; omega) (fun e => by have := (HRO7.out.block _ e.symm).2; omega)).trans (HV7.out.alloc _)
          obtain ⟨A5, c5, rfl, ho5⟩ := row_app (x := a) hroA hown
          have hnsA := (HNS7.out.below ((Below.refl _ _).alloc (Nat.le_refl _) (.cells #[.int .i64 a.k, .int .i64 a.a, .int .i64 a.b, .int .i64 a.m.k, .int .i64 a.m.r, .int .i64 a.m.v, .int .i64 a.m.p, .int .i64 a.m.f] 51))).by_row hroA hg
          have hxA := (HX7.out.alloc (.cells #[.int .i64 a.k, .int .i64 a.a, .int .i64 a.b, .int .i64 a.m.k, .int .i64 a.m.r, .int .i64 a.m.v, .int .i64 a.m.p, .int .i64 a.m.f] 51)).by_row (by decide) hroA hg
          have hgc : Chg w.heap.size (w7.alloc (.cells #[.int .i64 a.k, .int .i64 a.a, .int .i64 a.b, .int .i64 a.m.k, .int .i64 a.m.r, .int .i64 a.m.v, .int .i64 a.m.p, .int .i64 a.m.f] 51)).heap.size (w7.alloc (.cells #[.int .i64 a.k, .int .i64 a.a, .int .i64 a.b, .int .i64 a.m.k, .int .i64 a.m.r, .int .i64 a.m.v, .int .i64 a.m.p, .int .i64 a.m.f] 51)) w5 := grown_chg hg fun g e => hroA.block g e
          have hcu := (HU7.out.alloc (.cells #[.int .i64 a.k, .int .i64 a.a, .int .i64 a.b, .int .i64 a.m.k, .int .i64 a.m.r, .int .i64 a.m.v, .int .i64 a.m.p, .int .i64 a.m.f] 51)).chg hgc hlt
          have hcc := (HCG7.out.alloc (.cells #[.int .i64 a.k, .int .i64 a.a, .int .i64 a.b, .int .i64 a.m.k, .int .i64 a.m.r, .int .i64 a.m.v, .int .i64 a.m.p, .int .i64 a.m.f] 51)).trans_topA (Nat.le_refl _) hgc
          have hs5 : w7.heap.size + 1 ≤ w5.heap.size := by have := hgc.size; simpa using this
          have HRO5 := Lib.hid ho5; have HS5 := Lib.hid hnsA; have HX5 := Lib.hid hxA; have HU5 := Lib.hid hcu; have HCG5 := Lib.hid hcc; have HV5 := Lib.hid hvA
          clear hown hg hat hroA hnsA hxA hgc hcu hcc ho5 hvA HRO7 HNS7 HX7 HU7 HCG7 HV7 vg vl
          obtain ⟨r, hr⟩ : ∃ r, netDoN ln lp ⟨a.k, a.a, a.b, a.m⟩ = r := ⟨_, rfl⟩
          have HRG := Lib.hid hr
          have HNI2 : Hid (NetI r.1 r.2.1) := Lib.hid (by rw [← hr]; exact netI_do HNI.out _)
          clear hr
          have vg := HV5.out.cell
          have vl := HV5.out.lt
          have cex := HX5.out.cell
          have lbx := HX5.out.lt
          go_wp2_with fail
          refine (l17Do_any lo1 hi1 A' c' P' d' ln lp a.k a.a a.b a.m _ HS5.out HNI.out.netB).mono ?_
          rintro e w8 ⟨A7, c7, P7, d7, hi9, he, hs9, hc9, hk9⟩
          rw [HRG.out] at he hs9
          subst he
          have hlo5 := HS5.out.hl
          have hhi5 := HS5.out.hh
          have HS8 := Lib.hid hs9
          have HX8 := Lib.hid (hk9 _ (by decide) (by decide) _ _ HX5.out)
          have HRO8 := Lib.hid (OwnL.wide (OwnL.keepT HRO5.out (hk9 _ (by decide) (by decide))) (Nat.le_refl _) hc9.size)
          have HU8 := Lib.hid (HU5.out.chg hc9 (by omega))
          have HCG8 : Hid (Chg cb (cb + 1) w w8) := Lib.hid (HCG5.out.trans_topA hlo1 hc9)
          have hs8 := hc9.size
          clear hs9 hc9 hk9 HS5 HX5 HRO5 HU5 HCG5 HV5 vg vl cex lbx
          go_upto_region 15 with fail
          obtain ⟨w', hw9⟩ : ∃ q, q = w8.alloc (.cells #[.slice A7 r.1.length c7, .slice P7 r.2.1.length d7] 27) := ⟨_, rfl⟩
          rw [← hw9]
          have hb : Below w8.heap.size w8 w' := by rw [hw9]; exact (Below.refl _ _).alloc (Nat.le_refl _) _
          have HK : Hid (Blk w' w8.heap.size 27 #[.slice A7 r.1.length c7, .slice P7 r.2.1.length d7]) := Lib.hid (by rw [hw9]; exact heap_alloc_new w8 _)
          have HF := Lib.hid (HS8.out.below hb)
          have HX6 := Lib.hid (HX8.out.below hb HX8.out.lt)
          have HRO6 := Lib.hid ((HRO8.out.below hb (Nat.le_refl _)).wide (hi' := w'.heap.size) (Nat.le_refl _) hb.size)
          have HU6 := Lib.hid (HU8.out.below hb HU8.out.lt (Nat.le_refl _))
          have HCG6 := Lib.hid (HCG8.out.below_trans hb)
          have hs9 := hb.size
          clear hw9 hb HS8 HX8 HRO8 HU8 HCG8
          have cez := HK.out.cell
          have lbz := HK.out.lt
          have cex := HX6.out.cell
          have fzx := HX6.out.frozen
          have lbx := HX6.out.lt
          have D : Chg w1.heap.size (w1.heap.size + 1) w' ((w'.setCell ⟨w1.heap.size, 0, none⟩ (.slice A7 r.1.length c7)).setCell ⟨w1.heap.size, 1, none⟩ (.slice P7 r.2.1.length d7)) := by (repeat (first | with_reducible refine Chg.setCell ?_ (by first | exact Nat.le_refl _ | (simp; done) | (simp; omega)) (by first | (simp; done) | (simp; omega)) _ | with_reducible refine Chg.alloc ?_ _ | with_reducible refine Chg.drew ?_)); (with_reducible exact Chg.refl _ _ _)
          have HXN : Hid (Blk ((w'.setCell ⟨w1.heap.size, 0, none⟩ (.slice A7 r.1.length c7)).setCell ⟨w1.heap.size, 1, none⟩ (.slice P7 r.2.1.length d7)) w1.heap.size 27 #[.slice A7 r.1.length c7, .slice P7 r.2.1.length d7]) := Lib.hid (by
            have h := (HX6.out.set_ 0 (.slice A7 r.1.length c7)).set_ 1 (.slice P7 r.2.1.length d7)
            simpa using h)
          have HFN := Lib.hid (HF.out.box HX6.out (by decide) (by decide) D)
          have HRON := Lib.hid (OwnL.wide (OwnL.keepT HRO6.out fun q cs hq => Blk.stay HX6.out D (by decide) hq) (Nat.le_refl _) D.size)
          have HUN := Lib.hid (HU6.out.chg D (by omega))
          have HCN := Lib.hid (HCG6.out.trans_topA (by omega) D)
          have hszN : w1.heap.size < ((w'.setCell ⟨w1.heap.size, 0, none⟩ (.slice A7 r.1.length c7)).setCell ⟨w1.heap.size, 1, none⟩ (.slice P7 r.2.1.length d7)).heap.size := by have := D.size; omega
          clear D
          go_wp2_with fail
          go_roundw
          case rel => exact ⟨k - 1, la ++ [a], _, c5, r.1, r.2.1, A7, c7, P7, d7, lo1, hi9, by simp; omega, by go_num, by simp, hlo1, HNI2.out, HFN.out, HXN.out, HRON.out, HUN.out, HCN.out, hszN⟩
          case measure => simp [intOf]; omega
        · obtain rfl : k = 0 := by omega
          go_wp2_with fail
          go_ret
          exact ⟨la, Al, cl, rfl, HRO.out, by rw [← HMM.out]; omega, HCG.out, HU.out⟩
end Go.Proofs.Ytjgaelnonacdkaa
