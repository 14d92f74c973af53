/- NetDo and NetPlay of the reference (written by wip/netplays.py). -/
import Derived.WalkKit
import Derived.WalkSpells
import Derived.WalkLawsBesides
import Derived.Lib.Hide
import Derived.Test.YtjgaelnonacdkaaMNetDoS
import Derived.Test.YtjgaelnonacdkaaG41
import Derived.Test.YtjgaelnonacdkaaG26
namespace Go.Proofs.Ytjgaelnonacdkaa
open Go.RowKit

theorem Blk.off {w w' : World} {q a b T : Nat} {cs : Array Value} (h : Blk w q T cs) (hc : Chg a b w w') (hq : q < a ∨ b ≤ q) : Blk w' q T cs := (hc.block q h.lt hq).trans h
theorem two_cells {cs : Array Value} (h : cs.size = 2) : ∃ u0 u1, cs = #[u0, u1] := by
  obtain ⟨l⟩ := cs
  match l, h with
  | [a, b], _ => exact ⟨a, b, rfl⟩
theorem OwnL.turn {T : TypeId} {a b : World} {α : Type} {f : α → List Value} {size : Nat} {t : TypeId} {lo hi : Nat} {A : Option Addr} {n c : Nat} {l : List α} (h : BoxTurn T a b) (ht : t ≠ T) (ho : OwnL f size t a lo hi A n c l) : OwnL f size t b lo hi A n c l := by
  refine ho.keep fun q h1 h2 e => ?_
  obtain ⟨cu, hu, _⟩ := ho.blk e
  rcases h.block q hu.lt with e | ⟨cs, cs', e, _, _⟩
  · exact e
  · have h3 : a.heap[q]? = some (.cells cu t (0, 0)) := hu
    rw [h3] at e
    simp only [Option.some.injEq, Obj.cells.injEq] at e
    exact absurd e.2.1 ht
theorem NodesX.turn {w w' : World} {lo hi n c : Nat} {A : Option Addr} {ln : List NodeD} {Q : Nat → Prop} (h : NodesX w lo hi A n c ln Q) (hE : BoxTurn 27 w w') : NodesX w' lo hi A n c ln Q := by
  obtain ⟨lv, a, b, d, e, f⟩ := h
  refine ⟨lv, OwnL.turn hE (by decide) a, b, fun i v hv => ?_, e, f⟩
  obtain ⟨x, p, q, r⟩ := d i v hv
  exact ⟨x, p, q, OwnL.turn hE (by decide) r⟩
theorem NetS.turn {w w' : World} {lo hi c d : Nat} {A P : Option Addr} {ln : List NodeD} {lp : List NMsgD} (h : NetS w lo hi A c P d ln lp) (hE : BoxTurn 27 w w') : NetS w' lo hi A c P d ln lp :=
  ⟨h.hl, Nat.le_trans h.hh hE.size, h.nodes.turn hE, OwnL.turn hE (by decide) h.pool⟩
def NetF (r : List NodeD × List NMsgD × Bool) (lo0 : Nat) (v : Value) (w : World) : Prop :=
  ∃ A c P d lo hi, v = .tuple #[.agg #[.slice A r.1.length c, .slice P r.2.1.length d], .bool r.2.2] ∧ lo0 ≤ lo ∧ NetS w lo hi A c P d r.1 r.2.1
section
variable {r : List NodeD × List NMsgD × Bool} {lo0 : Nat} {v v' : Value} {w w' : World}
theorem NetF.below (h : NetF r lo0 v w) (hb : Below w.heap.size w w') : NetF r lo0 v w' := by
  obtain ⟨A, c, P, d, lo, hi, e, h1, h2⟩ := h
  exact ⟨A, c, P, d, lo, hi, e, h1, h2.below hb⟩
theorem NetF.turn (h : NetF r lo0 v w) (hb : BoxTurn 27 w w') : NetF r lo0 v w' := by
  obtain ⟨A, c, P, d, lo, hi, e, h1, h2⟩ := h
  exact ⟨A, c, P, d, lo, hi, e, h1, h2.turn hb⟩
theorem NetF.slot (h : NetF r lo0 v w) (e : v' = v) : NetF r lo0 v' w := e ▸ h
end
theorem NetS.none (w : World) : NetS w w.heap.size w.heap.size none 0 none 0 [] [] :=
  ⟨Nat.le_refl _, Nat.le_refl _, NetS.nodes (NetS.of_low (Nat.le_refl _) (Nat.le_refl _) (NodesOwn.nil _ _ _) (msgs_nil _ _ _)), msgs_nil _ _ _⟩
def NetSDid (r : List NodeD × List NMsgD × Bool) (w : World) (e : Ending) (w' : World) : Prop :=
  ∃ A c P d lo hi, e = .returned (.tuple #[.agg #[.slice A r.1.length c, .slice P r.2.1.length d], .bool r.2.2]) ∧ w.heap.size ≤ lo ∧ NetS w' lo hi A c P d r.1 r.2.1 ∧ Below w.heap.size w w'
theorem NetSDid.mk {r : List NodeD × List NMsgD × Bool} {ln : List NodeD} {lp : List NMsgD} {b : Bool} {w w' : World} {A : Option Addr} {c : Nat} {P : Option Addr} {d n p lo hi : Nat} (hr : r = (ln, lp, b)) (hn : ln.length = n) (hp : lp.length = p) (hl : w.heap.size ≤ lo) (h : NetS w' lo hi A c P d ln lp) (hb : Below w.heap.size w w') :
    NetSDid r w (.returned (.tuple #[.agg #[.slice A n c, .slice P p d], .bool b])) w' := by
  subst hr; subst hn; subst hp
  exact ⟨A, c, P, d, lo, hi, rfl, hl, h, hb⟩

set_option maxRecDepth 100000 in
set_option maxHeartbeats 8000000 in
theorem sNetDo_any (A : Option Addr) (n c : Nat) (P : Option Addr) (p d : Nat) (ln : List NodeD) (lp : List NMsgD) (ak aa ab : Int) (m : NMsgD) (w : World) (hl : NodesRd w w.heap.size A n c ln) (hp : RdL msgC 5 w w.heap.size P p d lp) :
    Calls Try.prog 17 #[.agg #[.slice A n c, .slice P p d], .agg #[.int .i64 ak, .int .i64 aa, .int .i64 ab, .int .i64 m.k, .int .i64 m.r, .int .i64 m.v, .int .i64 m.p, .int .i64 m.f]] w (NetSDid (doN ln lp ⟨ak, aa, ab, m⟩) w) := by
  have hln : ln.length = n := by obtain ⟨_, _, h, _⟩ := hl; exact h
  subst hln
  obtain rfl : lp.length = p := hp.1
  have HL := Lib.hid hl
  have HP := Lib.hid hp
  clear hl hp
  have sz3 : ∀ (o1 o2 o3 : Obj), ((((w.alloc o1).alloc o2).alloc o3).heap.size = w.heap.size + 1 + 1 + 1) := fun o1 o2 o3 => by simp
  have HS3 := Lib.hid sz3
  clear sz3
  go_enter Try.func17, Try.ntmps17
  go_wp2_with fail
  refine (sNetOk_any A ln.length c P lp.length d ln lp _ ?_ ?_).mono ?_
  · exact (((HL.out.alloc (Nat.le_refl _) _).alloc (by simp) _).alloc (by simp; omega) _).more (by simp; omega)
  · exact (((HP.out.alloc (Nat.le_refl _) _).alloc (by simp) _).alloc (by simp; omega) _).more (by simp; omega)
  rintro e w1 ⟨rfl, hb⟩
  rw [HS3.out] at hb
  have hX1 : Blk w1 w.heap.size 27 #[.slice A ln.length c, .slice P lp.length d] := (((show Blk (w.alloc _) w.heap.size _ _ from heap_alloc_new w _).alloc _).alloc _).below hb (by omega)
  have hY1 : Blk w1 (w.heap.size + 1) 51 #[.int .i64 ak, .int .i64 aa, .int .i64 ab, .int .i64 m.k, .int .i64 m.r, .int .i64 m.v, .int .i64 m.p, .int .i64 m.f] := by
    have h := heap_alloc_new (w.alloc (.cells #[.slice A ln.length c, .slice P lp.length d] 27)) (.cells #[.int .i64 ak, .int .i64 aa, .int .i64 ab, .int .i64 m.k, .int .i64 m.r, .int .i64 m.v, .int .i64 m.p, .int .i64 m.f] 51)
    rw [World.size_alloc] at h
    exact ((show Blk _ _ _ _ from h).alloc _).below hb (by omega)
  have hR1 : Blk w1 (w.heap.size + 1 + 1) 27 #[.slice none 0 0, .slice none 0 0] := (blk_alloc3 w (.cells #[.slice A ln.length c, .slice P lp.length d] 27) (.cells #[.int .i64 ak, .int .i64 aa, .int .i64 ab, .int .i64 m.k, .int .i64 m.r, .int .i64 m.v, .int .i64 m.p, .int .i64 m.f] 51) #[.slice none 0 0, .slice none 0 0] 27).below hb (by omega)
  have hs1 := hb.size
  rw [HS3.out] at hs1
  have B1 : Hid (Below w.heap.size w w1) := Lib.hid ((((Below.refl _ _).alloc (Nat.le_refl _) _).alloc (by simp) _).alloc (by simp; omega) _ |>.trans (hb.mono (by omega)))
  clear hb
  have HX1 := Lib.hid hX1
  have HR1 := Lib.hid hR1
  have cer := hR1.cell
  have fzr := hR1.frozen
  have cey := hY1.cell
  have lby := hY1.lt
  clear hX1 hY1 hR1
  cases hB : netB ln lp
  · have HE : Hid (doN ln lp ⟨ak, aa, ab, m⟩ = ([], [], false)) := Lib.hid (by unfold doN; rw [hB]; rfl)
    clear hB
    clear cey lby
    go_wp2_with fail
    refine bodyPost_ret (v := .tuple #[.agg #[.slice none 0 0, .slice none 0 0], .bool false]) (by simp [results, Try.results17, go_sem, cer]) rfl ?_
    exact NetSDid.mk (lo := w1.heap.size) HE.out rfl rfl (by omega) ((NetS.none w1).chg (a := w.heap.size + 1 + 1) (b := w.heap.size + 1 + 1 + 1) (by (repeat (first | with_reducible refine Chg.setCell ?_ (by first | exact Nat.le_refl _ | (simp; done) | (simp; omega)) (by first | (simp; done) | (simp; omega)) _ | with_reducible refine Chg.alloc ?_ _ | with_reducible refine Chg.drew ?_)); (with_reducible exact Chg.refl _ _ _)) (.inr (by omega))) (by (repeat (first | with_reducible refine Below.setCell ?_ (by first | exact Nat.le_refl _ | (simp; done) | (simp; omega)) _ | with_reducible refine Below.alloc ?_ (by first | exact Nat.le_refl _ | (simp; done) | (simp; omega)) _ | with_reducible refine Below.drew ?_)); (with_reducible exact B1.out))
  · obtain ⟨r, hr⟩ : ∃ r, netDoN ln lp ⟨ak, aa, ab, m⟩ = r := ⟨_, rfl⟩
    have HE : Hid (doN ln lp ⟨ak, aa, ab, m⟩ = r) := Lib.hid (by unfold doN; rw [hB, ← hr]; rfl)
    have HRG := Lib.hid hr
    have HBI : Hid (ln.length ≤ 1000 ∧ (∀ x ∈ ln, x.l.length ≤ 1048576) ∧ lp.length ≤ 1048576) := Lib.hid (by
      obtain ⟨h3, hpk, hp150, hnodes⟩ := netB_iff.1 hB
      refine ⟨by omega, fun x hx => ?_, by omega⟩
      obtain ⟨i, hi⟩ := List.mem_iff_getElem?.1 hx
      have := (hnodes i x hi).1.len
      omega)
    have HBT := Lib.hid hB
    clear hB hr
    go_upto_region 3 with fail
    refine wp_region_full [0, 1, 2, 3, 4, 5, 6, 7, 8] (fun S wx => Below w1.heap.size w1 wx ∧ (∀ T, T ≠ 79 → T ≠ 49 → ∀ q cs, Blk w1 q T cs → Blk wx q T cs) ∧ True) (fun j wa wb => match j with | 3 => ∀ q cs, Blk wa q 27 cs → Blk wb q 27 cs | 8 => BoxTurn 27 wa wb | _ => Below wa.heap.size wa wb) (fun S ii b wx => match ii with
      | 0 => b.tmps.getD 13 undef = .agg #[.slice A ln.length c, .slice P lp.length d]
      | 1 => ∃ (A1 : Option Addr) (c1 : Nat) (P1 : Option Addr) (d1 : Nat), b.tmps.getD 14 undef = .agg #[.slice A1 ln.length c1, .slice P1 lp.length d1] ∧ (3 ∈ S ∨ ∃ lo' hi', w1.heap.size ≤ lo' ∧ NetS wx lo' hi' A1 c1 P1 d1 ln lp)
      | 2 => b.tmps.getD 15 undef = .agg #[.int .i64 ak, .int .i64 aa, .int .i64 ab, .int .i64 m.k, .int .i64 m.r, .int .i64 m.v, .int .i64 m.p, .int .i64 m.f]
      | 3 => NetF r w1.heap.size (b.tmps.getD 16 undef) wx
      | 4 => NetF r w1.heap.size (b.tmps.getD 12 undef) wx
      | 5 => ∃ (A1 : Option Addr) (c1 : Nat) (P1 : Option Addr) (d1 : Nat), b.tmps.getD 12 undef = .tuple #[.agg #[.slice A1 r.1.length c1, .slice P1 r.2.1.length d1], .bool r.2.2] ∧ b.tmps.getD 17 undef = .agg #[.slice A1 r.1.length c1, .slice P1 r.2.1.length d1]
      | 6 => b.tmps.getD 18 undef = .bool r.2.2
      | 7 => ∃ (q : Nat) (cs : Array Value), b.tmps.getD 6 undef = .pointer (some ⟨q, 0, none⟩) ∧ w1.heap.size ≤ q ∧ cs.size = 2 ∧ Blk wx q 27 cs
      | 8 => ∃ (q : Nat) (A1 : Option Addr) (c1 : Nat) (P1 : Option Addr) (d1 : Nat), b.tmps.getD 6 undef = .pointer (some ⟨q, 0, none⟩) ∧ b.tmps.getD 17 undef = .agg #[.slice A1 r.1.length c1, .slice P1 r.2.1.length d1] ∧ w1.heap.size ≤ q ∧ Blk wx q 27 #[.slice A1 r.1.length c1, .slice P1 r.2.1.length d1]
      | _ => True) (by kernel_rfl) (coreB2_ok (by kernel_rfl)) ⟨(Below.refl w1.heap.size _).drew, fun T _ _ q cs h => h.drew, trivial⟩ ?_ ?_ ?_
    · intro S b wa wb i7 j7 oj v hiS hjS hcl hi hj hij hoj hdep hE h
      simp only [List.mem_cons, List.not_mem_nil, or_false] at hi hj
      rcases hj with rfl | rfl | rfl | rfl | rfl | rfl | rfl | rfl | rfl
      all_goals obtain rfl := Option.some.inj hoj
      · rcases hi with rfl | rfl | rfl | rfl | rfl | rfl | rfl | rfl | rfl
        all_goals first | exact absurd rfl hij | exact trivial | (simp only at hE h ⊢; (first | exact trivial | exact getk' h (by decide) | (obtain ⟨A1, c1, P1, d1, e, h⟩ := h; exact ⟨A1, c1, P1, d1, getk' e (by decide), getk' h (by decide)⟩) | (obtain ⟨A1, c1, P1, d1, e, h⟩ := h; exact ⟨A1, c1, P1, d1, getk' e (by decide), (h.imp (List.mem_cons_of_mem _) fun ⟨lo', hi', h1, h2⟩ => ⟨lo', hi', h1, h2.below hE⟩)⟩) | (obtain ⟨q1, cs1, e, h1, h2, h⟩ := h; exact ⟨q1, cs1, getk' e (by decide), h1, h2, h.below hE h.lt⟩) | exact (h.below hE).slot (getk' rfl (by decide)) | (obtain ⟨q1, A1, c1, P1, d1, e, e5, h1, h⟩ := h; exact ⟨q1, A1, c1, P1, d1, getk' e (by decide), getk' e5 (by decide), h1, h.below hE h.lt⟩))) | exact absurd rfl (hdep _ rfl ⟨0, .data⟩ (by simp) rfl)
      · rcases hi with rfl | rfl | rfl | rfl | rfl | rfl | rfl | rfl | rfl
        all_goals first | exact absurd rfl hij | exact trivial | (simp only at hE h ⊢; (first | exact trivial | exact getk' h (by decide) | (obtain ⟨A1, c1, P1, d1, e, h⟩ := h; exact ⟨A1, c1, P1, d1, getk' e (by decide), getk' h (by decide)⟩) | (obtain ⟨A1, c1, P1, d1, e, h⟩ := h; exact ⟨A1, c1, P1, d1, getk' e (by decide), (h.imp (List.mem_cons_of_mem _) fun ⟨lo', hi', h1, h2⟩ => ⟨lo', hi', h1, h2.below hE⟩)⟩) | (obtain ⟨q1, cs1, e, h1, h2, h⟩ := h; exact ⟨q1, cs1, getk' e (by decide), h1, h2, h.below hE h.lt⟩) | exact (h.below hE).slot (getk' rfl (by decide)) | (obtain ⟨q1, A1, c1, P1, d1, e, e5, h1, h⟩ := h; exact ⟨q1, A1, c1, P1, d1, getk' e (by decide), getk' e5 (by decide), h1, h.below hE h.lt⟩))) | exact absurd rfl (hdep _ rfl ⟨1, .data⟩ (by simp) rfl)
      · rcases hi with rfl | rfl | rfl | rfl | rfl | rfl | rfl | rfl | rfl
        all_goals first | exact absurd rfl hij | exact trivial | (simp only at hE h ⊢; (first | exact trivial | exact getk' h (by decide) | (obtain ⟨A1, c1, P1, d1, e, h⟩ := h; exact ⟨A1, c1, P1, d1, getk' e (by decide), getk' h (by decide)⟩) | (obtain ⟨A1, c1, P1, d1, e, h⟩ := h; exact ⟨A1, c1, P1, d1, getk' e (by decide), (h.imp (List.mem_cons_of_mem _) fun ⟨lo', hi', h1, h2⟩ => ⟨lo', hi', h1, h2.below hE⟩)⟩) | (obtain ⟨q1, cs1, e, h1, h2, h⟩ := h; exact ⟨q1, cs1, getk' e (by decide), h1, h2, h.below hE h.lt⟩) | exact (h.below hE).slot (getk' rfl (by decide)) | (obtain ⟨q1, A1, c1, P1, d1, e, e5, h1, h⟩ := h; exact ⟨q1, A1, c1, P1, d1, getk' e (by decide), getk' e5 (by decide), h1, h.below hE h.lt⟩))) | exact absurd rfl (hdep _ rfl ⟨2, .data⟩ (by simp) rfl)
      · rcases hi with rfl | rfl | rfl | rfl | rfl | rfl | rfl | rfl | rfl
        · simp only at hE h ⊢; (first | exact trivial | exact getk' h (by decide) | (obtain ⟨A1, c1, P1, d1, e, h⟩ := h; exact ⟨A1, c1, P1, d1, getk' e (by decide), getk' h (by decide)⟩) | (obtain ⟨A1, c1, P1, d1, e, h⟩ := h; exact ⟨A1, c1, P1, d1, getk' e (by decide), (.inl (by simp))⟩) | (obtain ⟨q1, cs1, e, h1, h2, h⟩ := h; exact ⟨q1, cs1, getk' e (by decide), h1, h2, hE _ _ h⟩))
        · simp only at hE h ⊢; (first | exact trivial | exact getk' h (by decide) | (obtain ⟨A1, c1, P1, d1, e, h⟩ := h; exact ⟨A1, c1, P1, d1, getk' e (by decide), getk' h (by decide)⟩) | (obtain ⟨A1, c1, P1, d1, e, h⟩ := h; exact ⟨A1, c1, P1, d1, getk' e (by decide), (.inl (by simp))⟩) | (obtain ⟨q1, cs1, e, h1, h2, h⟩ := h; exact ⟨q1, cs1, getk' e (by decide), h1, h2, hE _ _ h⟩))
        · simp only at hE h ⊢; (first | exact trivial | exact getk' h (by decide) | (obtain ⟨A1, c1, P1, d1, e, h⟩ := h; exact ⟨A1, c1, P1, d1, getk' e (by decide), getk' h (by decide)⟩) | (obtain ⟨A1, c1, P1, d1, e, h⟩ := h; exact ⟨A1, c1, P1, d1, getk' e (by decide), (.inl (by simp))⟩) | (obtain ⟨q1, cs1, e, h1, h2, h⟩ := h; exact ⟨q1, cs1, getk' e (by decide), h1, h2, hE _ _ h⟩))
        · exact absurd rfl hij
        · exact absurd rfl (hdep _ rfl ⟨3, .data⟩ (by simp) rfl)
        · exact absurd (hcl 4 _ (hcl 5 _ hiS rfl ⟨4, .data⟩ (by simp) rfl) rfl ⟨3, .data⟩ (by simp) rfl) hjS
        · exact absurd (hcl 4 _ (hcl 6 _ hiS rfl ⟨4, .data⟩ (by simp) rfl) rfl ⟨3, .data⟩ (by simp) rfl) hjS
        · simp only at hE h ⊢; (first | exact trivial | exact getk' h (by decide) | (obtain ⟨A1, c1, P1, d1, e, h⟩ := h; exact ⟨A1, c1, P1, d1, getk' e (by decide), getk' h (by decide)⟩) | (obtain ⟨A1, c1, P1, d1, e, h⟩ := h; exact ⟨A1, c1, P1, d1, getk' e (by decide), (.inl (by simp))⟩) | (obtain ⟨q1, cs1, e, h1, h2, h⟩ := h; exact ⟨q1, cs1, getk' e (by decide), h1, h2, hE _ _ h⟩))
        · exact absurd rfl (hdep _ rfl ⟨3, .chain⟩ (by simp) rfl)
      · rcases hi with rfl | rfl | rfl | rfl | rfl | rfl | rfl | rfl | rfl
        all_goals first | exact absurd rfl hij | exact trivial | (simp only at hE h ⊢; (first | exact trivial | exact getk' h (by decide) | (obtain ⟨A1, c1, P1, d1, e, h⟩ := h; exact ⟨A1, c1, P1, d1, getk' e (by decide), getk' h (by decide)⟩) | (obtain ⟨A1, c1, P1, d1, e, h⟩ := h; exact ⟨A1, c1, P1, d1, getk' e (by decide), (h.imp (List.mem_cons_of_mem _) fun ⟨lo', hi', h1, h2⟩ => ⟨lo', hi', h1, h2.below hE⟩)⟩) | (obtain ⟨q1, cs1, e, h1, h2, h⟩ := h; exact ⟨q1, cs1, getk' e (by decide), h1, h2, h.below hE h.lt⟩) | exact (h.below hE).slot (getk' rfl (by decide)) | (obtain ⟨q1, A1, c1, P1, d1, e, e5, h1, h⟩ := h; exact ⟨q1, A1, c1, P1, d1, getk' e (by decide), getk' e5 (by decide), h1, h.below hE h.lt⟩))) | exact absurd rfl (hdep _ rfl ⟨4, .data⟩ (by simp) rfl)
      · rcases hi with rfl | rfl | rfl | rfl | rfl | rfl | rfl | rfl | rfl
        all_goals first | exact absurd rfl hij | exact trivial | (simp only at hE h ⊢; (first | exact trivial | exact getk' h (by decide) | (obtain ⟨A1, c1, P1, d1, e, h⟩ := h; exact ⟨A1, c1, P1, d1, getk' e (by decide), getk' h (by decide)⟩) | (obtain ⟨A1, c1, P1, d1, e, h⟩ := h; exact ⟨A1, c1, P1, d1, getk' e (by decide), (h.imp (List.mem_cons_of_mem _) fun ⟨lo', hi', h1, h2⟩ => ⟨lo', hi', h1, h2.below hE⟩)⟩) | (obtain ⟨q1, cs1, e, h1, h2, h⟩ := h; exact ⟨q1, cs1, getk' e (by decide), h1, h2, h.below hE h.lt⟩) | exact (h.below hE).slot (getk' rfl (by decide)) | (obtain ⟨q1, A1, c1, P1, d1, e, e5, h1, h⟩ := h; exact ⟨q1, A1, c1, P1, d1, getk' e (by decide), getk' e5 (by decide), h1, h.below hE h.lt⟩))) | exact absurd rfl (hdep _ rfl ⟨5, .data⟩ (by simp) rfl)
      · rcases hi with rfl | rfl | rfl | rfl | rfl | rfl | rfl | rfl | rfl
        all_goals first | exact absurd rfl hij | exact trivial | (simp only at hE h ⊢; (first | exact trivial | exact getk' h (by decide) | (obtain ⟨A1, c1, P1, d1, e, h⟩ := h; exact ⟨A1, c1, P1, d1, getk' e (by decide), getk' h (by decide)⟩) | (obtain ⟨A1, c1, P1, d1, e, h⟩ := h; exact ⟨A1, c1, P1, d1, getk' e (by decide), (h.imp (List.mem_cons_of_mem _) fun ⟨lo', hi', h1, h2⟩ => ⟨lo', hi', h1, h2.below hE⟩)⟩) | (obtain ⟨q1, cs1, e, h1, h2, h⟩ := h; exact ⟨q1, cs1, getk' e (by decide), h1, h2, h.below hE h.lt⟩) | exact (h.below hE).slot (getk' rfl (by decide)) | (obtain ⟨q1, A1, c1, P1, d1, e, e5, h1, h⟩ := h; exact ⟨q1, A1, c1, P1, d1, getk' e (by decide), getk' e5 (by decide), h1, h.below hE h.lt⟩))) | exact absurd rfl (hdep _ rfl ⟨6, .data⟩ (by simp) rfl)
      · rcases hi with rfl | rfl | rfl | rfl | rfl | rfl | rfl | rfl | rfl
        all_goals first | exact absurd rfl hij | exact trivial | (simp only at hE h ⊢; (first | exact trivial | exact getk' h (by decide) | (obtain ⟨A1, c1, P1, d1, e, h⟩ := h; exact ⟨A1, c1, P1, d1, getk' e (by decide), getk' h (by decide)⟩) | (obtain ⟨A1, c1, P1, d1, e, h⟩ := h; exact ⟨A1, c1, P1, d1, getk' e (by decide), (h.imp (List.mem_cons_of_mem _) fun ⟨lo', hi', h1, h2⟩ => ⟨lo', hi', h1, h2.below hE⟩)⟩) | (obtain ⟨q1, cs1, e, h1, h2, h⟩ := h; exact ⟨q1, cs1, getk' e (by decide), h1, h2, h.below hE h.lt⟩) | exact (h.below hE).slot (getk' rfl (by decide)) | (obtain ⟨q1, A1, c1, P1, d1, e, e5, h1, h⟩ := h; exact ⟨q1, A1, c1, P1, d1, getk' e (by decide), getk' e5 (by decide), h1, h.below hE h.lt⟩))) | exact absurd rfl (hdep _ rfl ⟨7, .data⟩ (by simp) rfl)
      · rcases hi with rfl | rfl | rfl | rfl | rfl | rfl | rfl | rfl | rfl
        all_goals first | exact absurd rfl hij | exact trivial | (simp only at hE h ⊢; (first | exact trivial | exact getk' h (by decide) | (obtain ⟨A1, c1, P1, d1, e, h⟩ := h; exact ⟨A1, c1, P1, d1, getk' e (by decide), getk' h (by decide)⟩) | (obtain ⟨A1, c1, P1, d1, e, h⟩ := h; exact ⟨A1, c1, P1, d1, getk' e (by decide), (h.imp (List.mem_cons_of_mem _) fun ⟨lo', hi', h1, h2⟩ => ⟨lo', hi', h1, h2.turn hE⟩)⟩) | (obtain ⟨q1, cs1, e, h1, h2, h⟩ := h; obtain ⟨cs2, h3, h4⟩ := hE.box h; exact ⟨q1, cs2, getk' e (by decide), h1, h3.trans h2, h4⟩) | exact (h.turn hE).slot (getk' rfl (by decide)))) | exact absurd rfl (hdep _ rfl ⟨8, .data⟩ (by simp) rfl)
    · intro S j7 o hj hjS hcl ho a' w' hC hsame hdep
      have hW0 : w1.heap.size ≤ w1.heap.size := (Nat.le_refl _)
      have hz : w1.heap.size ≤ w'.heap.size := hC.1.size
      simp only [List.mem_cons, List.not_mem_nil, or_false] at hj
      rcases hj with rfl | rfl | rfl | rfl | rfl | rfl | rfl | rfl | rfl
      all_goals obtain rfl := Option.some.inj ho
      · have hs : a'.tmps.getD 2 undef = .pointer (some ⟨w.heap.size, 0, none⟩) := hsame 2 (by rfl)
        have zz := (hC.2.1 _ (by decide) (by decide) _ _ HX1.out).cell
        refine wp_val (w2 := w') (.agg #[.slice A ln.length c, .slice P lp.length d]) (fun K hK => ?_) ⟨_, rfl, ⟨hC.1, hC.2.1, trivial⟩, Below.refl _ _, fun b hb hb2 => hb 13 rfl⟩
        clear hsame hdep
        unfold Oper.wp
        simp [execOp, Act.eval, go_sem, hs, zz]
        exact hK
      · have e1 : a'.tmps.getD 13 undef = .agg #[.slice A ln.length c, .slice P lp.length d] := hdep ⟨0, .data⟩ (by simp) rfl
        have hrn : NodesRd w' w'.heap.size A ln.length c ln := (HL.out.below (B1.out.trans (hC.1.mono (by omega))) (Nat.le_refl _)).more (by omega)
        have hrp : RdL msgC 5 w' w'.heap.size P lp.length d lp := (HP.out.below (B1.out.trans (hC.1.mono (by omega))) (Nat.le_refl _)).more (by omega)
        refine wp_call (fun u wq => (∃ A4 c4 P4 d4 lo4 hi4, u = .agg #[.slice A4 ln.length c4, .slice P4 lp.length d4] ∧ w1.heap.size ≤ lo4 ∧ NetS wq lo4 hi4 A4 c4 P4 d4 ln lp) ∧ Below w'.heap.size w' wq) (fun K hK => ?_) ?_
        · clear hsame hdep
          unfold Oper.wp
          simp [Act.eval, e1, go_sem]
          refine (l17Copy_any A c P d ln lp _ hrn hrp HBI.out.1 HBI.out.2.1 HBI.out.2.2).mono ?_
          rintro e w3' ⟨A4, c4, P4, d4, m4, he, h1, h2, h3, h4, h5⟩
          subst he
          exact hK _ _ ⟨⟨A4, c4, P4, d4, _, _, rfl, hz, NetS.of_low h1 h2 h3 h4⟩, h5⟩
        · rintro u w3' ⟨⟨A4, c4, P4, d4, lo4, hi4, rfl, hlo4, hs4⟩, hb3⟩
          exact ⟨_, rfl, ⟨hC.1.trans (hb3.mono hz), fun T h1 h2 q cs h => (hC.2.1 T h1 h2 q cs h).below hb3 (hC.2.1 T h1 h2 q cs h).lt, trivial⟩, hb3, fun b hb _ => ⟨A4, c4, P4, d4, hb 14 rfl, .inr ⟨lo4, hi4, hlo4, hs4⟩⟩⟩
      · have hs : a'.tmps.getD 3 undef = .pointer (some ⟨(w.heap.size + 1), 0, none⟩) := hsame 3 (by rfl)
        have zz : ∀ o, w'.cell? ⟨(w.heap.size + 1), o, none⟩ = _ := fun o => (hC.1.cell (p := ⟨(w.heap.size + 1), o, none⟩) lby).trans (cey o)
        refine wp_val (w2 := w') (.agg #[.int .i64 ak, .int .i64 aa, .int .i64 ab, .int .i64 m.k, .int .i64 m.r, .int .i64 m.v, .int .i64 m.p, .int .i64 m.f]) (fun K hK => ?_) ⟨_, rfl, ⟨hC.1, hC.2.1, trivial⟩, Below.refl _ _, fun b hb hb2 => hb 15 rfl⟩
        clear hsame hdep
        unfold Oper.wp
        simp [execOp, Act.eval, go_sem, hs, zz]
        exact hK
      · obtain ⟨A4, c4, P4, d4, e1, hn4⟩ := hdep ⟨1, .data⟩ (by simp) rfl
        have e2 : a'.tmps.getD 15 undef = .agg #[.int .i64 ak, .int .i64 aa, .int .i64 ab, .int .i64 m.k, .int .i64 m.r, .int .i64 m.v, .int .i64 m.p, .int .i64 m.f] := hdep ⟨2, .data⟩ (by simp) rfl
        obtain ⟨lo1, hi1, hlo1, nets⟩ := hn4.resolve_left hjS
        refine wp_call (fun u wq => NetF r w1.heap.size u wq ∧ Below w1.heap.size w' wq ∧ ∀ T, T ≠ 79 → T ≠ 49 → ∀ q cs, Blk w' q T cs → Blk wq q T cs) (fun K hK => ?_) ?_
        · clear hsame hdep
          unfold Oper.wp
          simp [Act.eval, e1, e2, go_sem]
          refine (l17Do_any lo1 hi1 _ _ _ _ ln lp _ _ _ _ _ nets HBT.out).mono ?_
          rintro e w3' ⟨A7, c7, P7, d7, hi7, he, hs7, hc7, hk7⟩
          rw [HRG.out] at he hs7
          subst he
          exact hK _ _ ⟨⟨A7, c7, P7, d7, lo1, hi7, rfl, hlo1, hs7⟩, hc7.below hlo1 (by omega), hk7⟩
        · rintro u w3' ⟨hnf, hb3, hk3⟩
          exact ⟨_, rfl, ⟨hC.1.trans hb3, fun T h1 h2 q cs h => hk3 T h1 h2 q cs (hC.2.1 T h1 h2 q cs h), trivial⟩, hk3 _ (by decide) (by decide), fun b hb _ => hnf.slot (hb 16 rfl)⟩
      · obtain ⟨A7, c7, P7, d7, lo7, hi7, e1, hlo7, hs7⟩ := hdep ⟨3, .data⟩ (by simp) rfl
        refine wp_val (w2 := w') (.tuple #[.agg #[.slice A7 r.1.length c7, .slice P7 r.2.1.length d7], .bool r.2.2]) (fun K hK => ?_) ⟨_, rfl, ⟨hC.1, hC.2.1, trivial⟩, Below.refl _ _, fun b hb hb2 => ⟨A7, c7, P7, d7, lo7, hi7, hb 12 rfl, hlo7, hs7⟩⟩
        clear hsame hdep
        unfold Oper.wp
        simp [execOp, Act.eval, go_sem, e1]
        exact hK
      · obtain ⟨A7, c7, P7, d7, lo7, hi7, e1, hlo7, hs7⟩ := hdep ⟨4, .data⟩ (by simp) rfl
        refine wp_val (w2 := w') (.agg #[.slice A7 r.1.length c7, .slice P7 r.2.1.length d7]) (fun K hK => ?_) ⟨_, rfl, ⟨hC.1, hC.2.1, trivial⟩, Below.refl _ _, fun b hb hb2 => ⟨A7, c7, P7, d7, (hb2 12 (by intro d h; cases h; decide)).trans e1, hb 17 rfl⟩⟩
        clear hsame hdep
        unfold Oper.wp
        simp [execOp, Act.eval, go_sem, e1]
        exact hK
      · obtain ⟨A7, c7, P7, d7, lo7, hi7, e1, hlo7, hs7⟩ := hdep ⟨4, .data⟩ (by simp) rfl
        refine wp_val (w2 := w') (.bool r.2.2) (fun K hK => ?_) ⟨_, rfl, ⟨hC.1, hC.2.1, trivial⟩, Below.refl _ _, fun b hb hb2 => hb 18 rfl⟩
        clear hsame hdep
        unfold Oper.wp
        simp [execOp, Act.eval, go_sem, e1]
        exact hK
      · have hnew := heap_alloc_new w' (.cells #[.slice none 0 0, .slice none 0 0] 27)
        have hbl' : Below w'.heap.size w' (w'.alloc (.cells #[.slice none 0 0, .slice none 0 0] 27)) := (Below.refl _ _).alloc (Nat.le_refl _) _
        have hbl := hbl'.mono (show w1.heap.size ≤ w'.heap.size by omega)
        refine wp_val (w2 := w'.alloc (.cells #[.slice none 0 0, .slice none 0 0] 27)) (.pointer (some ⟨w'.heap.size, 0, none⟩)) (fun K hK => ?_) ⟨_, rfl, ⟨hC.1.trans hbl, fun T h1 h2 q cs h => (hC.2.1 T h1 h2 q cs h).below hbl' (hC.2.1 T h1 h2 q cs h).lt, trivial⟩, hbl', fun b hb _ => ⟨w'.heap.size, _, hb 6 rfl, hz, rfl, show Blk _ _ _ _ from hnew⟩⟩
        clear hsame hdep hnew hbl hbl'
        unfold Oper.wp
        simp [execOp, go_sem]
        exact hK
      · obtain ⟨q0, cs0, e1, hq0, hsz, hblk⟩ := hdep ⟨7, .data⟩ (by simp) rfl
        obtain ⟨A7, c7, P7, d7, e3, e2⟩ := hdep ⟨5, .data⟩ (by simp) rfl
        clear e3
        obtain ⟨u0, u1, rfl⟩ := two_cells hsz
        have zz := hblk.cell
        have ff := hblk.frozen
        obtain ⟨w9, hw9⟩ : ∃ z, z = ((w'.setCell ⟨q0, 0, none⟩ (.slice A7 r.1.length c7)).setCell ⟨q0, 1, none⟩ (.slice P7 r.2.1.length d7)) := ⟨_, rfl⟩
        have hchg : Chg q0 (q0 + 1) w' w9 := by rw [hw9]; (repeat (first | with_reducible refine Chg.setCell ?_ (by first | exact Nat.le_refl _ | (simp; done) | (simp; omega)) (by first | (simp; done) | (simp; omega)) _ | with_reducible refine Chg.alloc ?_ _ | with_reducible refine Chg.drew ?_)); (with_reducible exact Chg.refl _ _ _)
        have hblk2 : Blk w9 q0 27 #[.slice A7 r.1.length c7, .slice P7 r.2.1.length d7] := by
          rw [hw9]
          have hb := (hblk.set_ 0 (.slice A7 r.1.length c7)).set_ 1 (.slice P7 r.2.1.length d7)
          simp only [List.setIfInBounds_toArray, List.set_cons_zero, List.set_cons_succ] at hb
          exact hb
        have hturn := BoxTurn.of_blk hblk hblk2 rfl hchg
        have hcls : (fun S wx => Below w1.heap.size w1 wx ∧ (∀ T, T ≠ 79 → T ≠ 49 → ∀ q cs, Blk w1 q T cs → Blk wx q T cs) ∧ True) (8 :: S) w9 := ⟨hC.1.trans (hchg.below (Nat.le_trans hW0 hq0) (by omega)), fun T h1 h2 q cs h => (hC.2.1 T h1 h2 q cs h).off hchg (.inl (Nat.lt_of_lt_of_le h.lt hq0)), trivial⟩
        refine wp_val (w2 := w9) undef (fun K hK => ?_) ⟨_, rfl, hcls, hturn, fun b _ hb => ⟨q0, A7, c7, P7, d7, (hb 6 (by intro d h; cases h)).trans e1, (hb 17 (by intro d h; cases h)).trans e2, hq0, hblk2⟩⟩
        rw [hw9] at hK
        clear hsame hdep hchg hblk2 hturn hcls hw9 hblk
        unfold Oper.wp
        simp [execOp, Act.eval, e1, e2, go_sem, zz, ff]
        exact hK
    · intro S a' w' hall hC ha hP
      obtain ⟨q0, A7, c7, P7, d7, t1, f1, hq0, hblk⟩ := hP 8 (by simp)
      obtain ⟨A8, c8, P8, d8, f3, f2⟩ := hP 5 (by simp)
      obtain ⟨A9, c9, P9, d9, lo9, hi9, f4, hlo9, hs9⟩ := hP 4 (by simp)
      have t4 : a'.tmps.getD 18 undef = .bool r.2.2 := hP 6 (by simp)
      clear hP
      have ex := f1.symm.trans f2
      simp only [Value.agg.injEq, Array.mk.injEq, List.cons.injEq, Value.slice.injEq, true_and, and_true] at ex
      obtain ⟨⟨rfl, rfl⟩, rfl, rfl⟩ := ex
      have ey := f3.symm.trans f4
      simp only [Value.tuple.injEq, Value.agg.injEq, Array.mk.injEq, List.cons.injEq, Value.slice.injEq, true_and, and_true] at ey
      obtain ⟨⟨rfl, rfl⟩, rfl, rfl⟩ := ey
      clear f1 f2 f3 f4
      simp only [coreOps, List.filterMap_cons, List.filterMap_nil, List.getElem?_cons_zero, List.getElem?_cons_succ, fillA, slotOf, Act.put, t1, t4] at ha
      generalize a'.tmps.getD 13 undef = u13 at ha
      generalize a'.tmps.getD 14 undef = u14 at ha
      generalize a'.tmps.getD 15 undef = u15 at ha
      generalize a'.tmps.getD 16 undef = u16 at ha
      generalize a'.tmps.getD 12 undef = u12 at ha
      generalize a'.tmps.getD 17 undef = u17 at ha
      subst ha
      have HK := Lib.hid hblk
      have HF := Lib.hid hs9
      have HC1 := Lib.hid hC.1
      have HC2 := Lib.hid hC.2.1
      clear hblk hs9 hC hall
      show wpAny _ _ _ _ 1 _ _ _
      refine wpAny_ready (rs := [9]) (by kernel_rfl) (by simp) ?_
      refine AllReady.cons rfl (fun K hK => ?_) AllReady.nil
      go_simp
      refine hK _ _ ?_
      clear hK K
      refine wpAny_done (by kernel_rfl) ?_ _
      have cey2 := HK.out.cell
      have fz2 := HK.out.frozen
      have HR2 := HC2.out _ (by decide) (by decide) _ _ HR1.out
      have cer2 := HR2.cell
      have fzr2 := HR2.frozen
      clear HR2 cer fzr cey lby
      go_wp2_with fail
      refine bodyPost_ret (v := .tuple #[.agg #[.slice A7 r.1.length c7, .slice P7 r.2.1.length d7], .bool r.2.2]) (by simp [results, Try.results17, go_sem, cer2]) rfl ?_
      refine NetSDid.mk (by rw [HE.out]) rfl rfl (by omega) (HF.out.box (HC2.out _ (by decide) (by decide) _ _ HR1.out) (by decide) (by decide) (by (repeat (first | with_reducible refine Chg.setCell ?_ (by first | exact Nat.le_refl _ | (simp; done) | (simp; omega)) (by first | (simp; done) | (simp; omega)) _ | with_reducible refine Chg.alloc ?_ _ | with_reducible refine Chg.drew ?_)); (with_reducible exact Chg.refl _ _ _))) ?_
      (repeat (first | with_reducible refine Below.setCell ?_ (by first | exact Nat.le_refl _ | (simp; done) | (simp; omega)) _ | with_reducible refine Below.alloc ?_ (by first | exact Nat.le_refl _ | (simp; done) | (simp; omega)) _ | with_reducible refine Below.drew ?_)); (with_reducible exact (B1.out.trans (HC1.out.mono (by omega))))

def SPlayed (r : (List NodeD × List NMsgD) × Nat) (w : World) (e : Ending) (w' : World) : Prop :=
  ∃ A c P d lo hi, e = .returned (.tuple #[.agg #[.slice A r.1.1.length c, .slice P r.1.2.length d], .int .i64 (r.2 : Int)]) ∧ w.heap.size ≤ lo ∧ NetS w' lo hi A c P d r.1.1 r.1.2 ∧ Below w.heap.size w w'

set_option maxRecDepth 100000 in
set_option maxHeartbeats 8000000 in
theorem sNetPlay_any (A : Option Addr) (n c : Nat) (la : List ActD) (w : World) (hl : RdL naC 8 w w.heap.size A n c la) :
    Calls Try.prog 8 #[.slice A n c] w (SPlayed (playN la) w) := by
  obtain rfl : la.length = n := hl.1
  have hn := hl.le
  have HL := Lib.hid hl
  clear hl
  by_cases h4 : 400 < la.length
  · have HE : Hid (playN la = (([], []), 0)) := Lib.hid (by unfold playN; rw [if_pos h4])
    go_enter Try.func8, Try.ntmps8
    go_wp2_with fail
    refine bodyPost_ret (v := .tuple #[.agg #[.slice none 0 0, .slice none 0 0], .int .i64 0]) (by simp [results, Try.results8, go_sem]) rfl ?_
    rw [HE.out]
    refine ⟨none, 0, none, 0, (w.alloc (.cells #[.slice none 0 0, .slice none 0 0] 27)).heap.size, (w.alloc (.cells #[.slice none 0 0, .slice none 0 0] 27)).heap.size, rfl, by simp, ?_, ?_⟩
    · first
        | exact NetS.none _
        | exact (NetS.none (w.alloc (.cells #[.slice none 0 0, .slice none 0 0] 27))).chg (a := w.heap.size) (b := w.heap.size + 1) (by (repeat (first | with_reducible refine Chg.setCell ?_ (by first | exact Nat.le_refl _ | (simp; done) | (simp; omega)) (by first | (simp; done) | (simp; omega)) _ | with_reducible refine Chg.alloc ?_ _ | with_reducible refine Chg.drew ?_)); (with_reducible exact Chg.refl _ _ _)) (.inr (by simp))
    exact (by repeat (first | exact Below.refl _ _ | assumption | refine Below.drew ?_ | refine belN ?_ _ | refine Below.alloc ?_ (by first | exact Nat.le_refl _ | (simp; done) | (simp; omega) | omega) _ | refine Below.setCell ?_ (by first | exact Nat.le_refl _ | (simp; done) | (simp; omega) | omega) _ | refine Below.trans ?_ (Below.mono (by assumption) (by first | exact Nat.le_refl _ | (simp; done) | (simp; omega) | omega))))
  have HE : Hid (playN la = playTo la) := Lib.hid (by unfold playN; rw [if_neg h4])
  have h4' : la.length ≤ 400 := by omega
  go_enter Try.func8, Try.ntmps8
  go_wp2_with fail
  refine (sNetNew_any _).mono ?_
  rintro e w1 ⟨A1, c1, rfl, ho, hb⟩
  have hR1 : Blk w1 w.heap.size 27 #[.slice none 0 0, .slice none 0 0] := (show Blk (w.alloc _) w.heap.size _ _ from heap_alloc_new w _).below hb (by simp)
  have hs1 := hb.size
  have B1 : Hid (Below w.heap.size w w1) := Lib.hid (((Below.refl _ _).alloc (Nat.le_refl _) _).trans (hb.mono (by simp)))
  simp only [World.size_alloc] at hs1 ho
  go_upto_region 4 with fail
  obtain ⟨w2, hw2⟩ : ∃ q, q = w1.alloc (.cells #[.slice A1 3 c1, .slice none 0 0] 27) := ⟨_, rfl⟩
  rw [← hw2]
  have hb2 : Below w1.heap.size w1 w2 := by rw [hw2]; exact (Below.refl _ _).alloc (Nat.le_refl _) _
  have HX2 : Hid (Blk w2 w1.heap.size 27 #[.slice A1 newN.length c1, .slice none ([] : List NMsgD).length 0]) := Lib.hid (by rw [hw2]; exact heap_alloc_new w1 _)
  have HR2 := Lib.hid (hR1.below hb2 hR1.lt)
  have B2 : Hid (Below w.heap.size w w2) := Lib.hid (B1.out.trans (hb2.mono (by omega)))
  have hs2 := hb2.size
  have HI2 : Hid (NetS w2 (w.heap.size + 1) w1.heap.size A1 c1 none 0 newN []) := Lib.hid ((NetS.of_low (lp := []) (m1 := w.heap.size + 1) (Nat.le_refl _) hs1 ho (msgs_nil _ _ _)).below hb2)
  clear hw2 hb2 hb ho hR1
  go_wp2_with fail
  go_loopw [5, 6] (fun cn i wr => ∃ (k lo1 hi1 : Nat) (A' : Option Addr) (c' : Nat) (P' : Option Addr) (d' : Nat), k ≤ la.length ∧ i = .int .i64 k ∧ cn = .int .i64 ((playTo (la.take k)).2 : Int) ∧ w.heap.size ≤ lo1 ∧ NetS wr lo1 hi1 A' c' P' d' (playTo (la.take k)).1.1 (playTo (la.take k)).1.2 ∧
      Blk wr w1.heap.size 27 #[.slice A' (playTo (la.take k)).1.1.length c', .slice P' (playTo (la.take k)).1.2.length d'] ∧ Blk wr w.heap.size 27 #[.slice none 0 0, .slice none 0 0] ∧ Below w.heap.size w wr) (fun _ i _ => la.length - (intOf i).toNat)
  case atStart => exact ⟨0, _, _, A1, c1, none, 0, by omega, rfl, rfl, Nat.le_succ _, HI2.out, HX2.out, HR2.out, B2.out⟩
  case round =>
    obtain ⟨k, lo1, hi1, A', c', P', d', hk, rfl, rfl, hlo1, hin, hx, hr, hb⟩ := hrel
    have HS := Lib.hid hin
    have HX := Lib.hid hx
    have HR := Lib.hid hr
    have HB := Lib.hid hb
    have hnb := (netI_play (la.take k)).netB
    have HBT := Lib.hid hnb
    have hcnt := playTo_le (la.take k)
    rw [List.length_take] at hcnt
    have hlx := hx.lt
    have hlr := hr.lt
    have hsw := hb.size
    clear hin hx hr hb hnb
    by_cases hkn : k < la.length
    · obtain ⟨b0, off, aq, rfl, hb1, ha, z0, z1, z2, z3, z4, z5, z6, z7⟩ := na_cells HL.out hkn
      have HT := Lib.hid (playTo_next ha)
      clear ha
      generalize playTo (la.take k) = x at *
      obtain ⟨⟨ln, lp⟩, cnt⟩ := x
      dsimp only at HS HX HBT hcnt ⊢
      obtain ⟨r, hr⟩ : ∃ r, netDoN ln lp ⟨aq.k, aq.a, aq.b, aq.m⟩ = r := ⟨_, rfl⟩
      have HRG := Lib.hid hr
      have HSTEP : Hid (playTo (la.take (k + 1)) = ((r.1, r.2.1), if r.2.2 = true then cnt + 1 else cnt)) := Lib.hid (by rw [HT.out, ← hr]; rfl)
      clear hr HT
      go_upto_region 8 with fail
      refine wp_region_full [0, 1, 2, 3, 4, 5, 6, 7, 8, 9, 10] (fun S wx => Below w.heap.size wr wx ∧ (∀ T, T ≠ 79 → T ≠ 49 → ∀ q cs, Blk wr q T cs → Blk wx q T cs) ∧ (5 ∈ S ∨ NetS wx lo1 hi1 A' c' P' d' ln lp)) (fun j wa wb => match j with | 5 => ∀ q cs, Blk wa q 27 cs → Blk wb q 27 cs | 10 => BoxTurn 27 wa wb | _ => Below wa.heap.size wa wb) (fun S ii b wx => match ii with
        | 0 => b.tmps.getD 21 undef = .agg #[.slice A' ln.length c', .slice P' lp.length d']
        | 1 => b.tmps.getD 22 undef = .slice (some ⟨b0, off, none⟩) la.length c
        | 2 => b.tmps.getD 23 undef = .int .i64 (k : Int)
        | 3 => b.tmps.getD 24 undef = .pointer (some ⟨b0, off + k * 8, none⟩)
        | 4 => b.tmps.getD 25 undef = .agg #[.int .i64 aq.k, .int .i64 aq.a, .int .i64 aq.b, .int .i64 aq.m.k, .int .i64 aq.m.r, .int .i64 aq.m.v, .int .i64 aq.m.p, .int .i64 aq.m.f]
        | 5 => NetF r w.heap.size (b.tmps.getD 26 undef) wx
        | 6 => NetF r w.heap.size (b.tmps.getD 20 undef) wx
        | 7 => ∃ (A1 : Option Addr) (c1 : Nat) (P1 : Option Addr) (d1 : Nat), b.tmps.getD 20 undef = .tuple #[.agg #[.slice A1 r.1.length c1, .slice P1 r.2.1.length d1], .bool r.2.2] ∧ b.tmps.getD 27 undef = .agg #[.slice A1 r.1.length c1, .slice P1 r.2.1.length d1]
        | 8 => b.tmps.getD 28 undef = .bool r.2.2
        | 9 => ∃ (q : Nat) (cs : Array Value), b.tmps.getD 7 undef = .pointer (some ⟨q, 0, none⟩) ∧ wr.heap.size ≤ q ∧ cs.size = 2 ∧ Blk wx q 27 cs
        | 10 => ∃ (q : Nat) (A1 : Option Addr) (c1 : Nat) (P1 : Option Addr) (d1 : Nat), b.tmps.getD 7 undef = .pointer (some ⟨q, 0, none⟩) ∧ b.tmps.getD 27 undef = .agg #[.slice A1 r.1.length c1, .slice P1 r.2.1.length d1] ∧ wr.heap.size ≤ q ∧ Blk wx q 27 #[.slice A1 r.1.length c1, .slice P1 r.2.1.length d1]
        | _ => True) (by kernel_rfl) (coreB2_ok (by kernel_rfl)) ⟨(Below.refl w.heap.size _).drew, fun T _ _ q cs h => h.drew, .inr (HS.out.chg ((Chg.refl 0 0 _).drew) (.inr (Nat.zero_le _)))⟩ ?_ ?_ ?_
      · intro S b wa wb i7 j7 oj v hiS hjS hcl hi hj hij hoj hdep hE h
        simp only [List.mem_cons, List.not_mem_nil, or_false] at hi hj
        rcases hj with rfl | rfl | rfl | rfl | rfl | rfl | rfl | rfl | rfl | rfl | rfl
        all_goals obtain rfl := Option.some.inj hoj
        · rcases hi with rfl | rfl | rfl | rfl | rfl | rfl | rfl | rfl | rfl | rfl | rfl
          all_goals first | exact absurd rfl hij | exact trivial | (simp only at hE h ⊢; (first | exact trivial | exact getk' h (by decide) | (obtain ⟨A1, c1, P1, d1, e, h⟩ := h; exact ⟨A1, c1, P1, d1, getk' e (by decide), getk' h (by decide)⟩) | (obtain ⟨A1, c1, P1, d1, e, h⟩ := h; exact ⟨A1, c1, P1, d1, getk' e (by decide), (h.imp (List.mem_cons_of_mem _) fun ⟨lo', hi', h1, h2⟩ => ⟨lo', hi', h1, h2.below hE⟩)⟩) | (obtain ⟨q1, cs1, e, h1, h2, h⟩ := h; exact ⟨q1, cs1, getk' e (by decide), h1, h2, h.below hE h.lt⟩) | exact (h.below hE).slot (getk' rfl (by decide)) | (obtain ⟨q1, A1, c1, P1, d1, e, e5, h1, h⟩ := h; exact ⟨q1, A1, c1, P1, d1, getk' e (by decide), getk' e5 (by decide), h1, h.below hE h.lt⟩))) | exact absurd rfl (hdep _ rfl ⟨0, .data⟩ (by simp) rfl)
        · rcases hi with rfl | rfl | rfl | rfl | rfl | rfl | rfl | rfl | rfl | rfl | rfl
          all_goals first | exact absurd rfl hij | exact trivial | (simp only at hE h ⊢; (first | exact trivial | exact getk' h (by decide) | (obtain ⟨A1, c1, P1, d1, e, h⟩ := h; exact ⟨A1, c1, P1, d1, getk' e (by decide), getk' h (by decide)⟩) | (obtain ⟨A1, c1, P1, d1, e, h⟩ := h; exact ⟨A1, c1, P1, d1, getk' e (by decide), (h.imp (List.mem_cons_of_mem _) fun ⟨lo', hi', h1, h2⟩ => ⟨lo', hi', h1, h2.below hE⟩)⟩) | (obtain ⟨q1, cs1, e, h1, h2, h⟩ := h; exact ⟨q1, cs1, getk' e (by decide), h1, h2, h.below hE h.lt⟩) | exact (h.below hE).slot (getk' rfl (by decide)) | (obtain ⟨q1, A1, c1, P1, d1, e, e5, h1, h⟩ := h; exact ⟨q1, A1, c1, P1, d1, getk' e (by decide), getk' e5 (by decide), h1, h.below hE h.lt⟩))) | exact absurd rfl (hdep _ rfl ⟨1, .data⟩ (by simp) rfl)
        · rcases hi with rfl | rfl | rfl | rfl | rfl | rfl | rfl | rfl | rfl | rfl | rfl
          all_goals first | exact absurd rfl hij | exact trivial | (simp only at hE h ⊢; (first | exact trivial | exact getk' h (by decide) | (obtain ⟨A1, c1, P1, d1, e, h⟩ := h; exact ⟨A1, c1, P1, d1, getk' e (by decide), getk' h (by decide)⟩) | (obtain ⟨A1, c1, P1, d1, e, h⟩ := h; exact ⟨A1, c1, P1, d1, getk' e (by decide), (h.imp (List.mem_cons_of_mem _) fun ⟨lo', hi', h1, h2⟩ => ⟨lo', hi', h1, h2.below hE⟩)⟩) | (obtain ⟨q1, cs1, e, h1, h2, h⟩ := h; exact ⟨q1, cs1, getk' e (by decide), h1, h2, h.below hE h.lt⟩) | exact (h.below hE).slot (getk' rfl (by decide)) | (obtain ⟨q1, A1, c1, P1, d1, e, e5, h1, h⟩ := h; exact ⟨q1, A1, c1, P1, d1, getk' e (by decide), getk' e5 (by decide), h1, h.below hE h.lt⟩))) | exact absurd rfl (hdep _ rfl ⟨2, .data⟩ (by simp) rfl)
        · rcases hi with rfl | rfl | rfl | rfl | rfl | rfl | rfl | rfl | rfl | rfl | rfl
          all_goals first | exact absurd rfl hij | exact trivial | (simp only at hE h ⊢; (first | exact trivial | exact getk' h (by decide) | (obtain ⟨A1, c1, P1, d1, e, h⟩ := h; exact ⟨A1, c1, P1, d1, getk' e (by decide), getk' h (by decide)⟩) | (obtain ⟨A1, c1, P1, d1, e, h⟩ := h; exact ⟨A1, c1, P1, d1, getk' e (by decide), (h.imp (List.mem_cons_of_mem _) fun ⟨lo', hi', h1, h2⟩ => ⟨lo', hi', h1, h2.below hE⟩)⟩) | (obtain ⟨q1, cs1, e, h1, h2, h⟩ := h; exact ⟨q1, cs1, getk' e (by decide), h1, h2, h.below hE h.lt⟩) | exact (h.below hE).slot (getk' rfl (by decide)) | (obtain ⟨q1, A1, c1, P1, d1, e, e5, h1, h⟩ := h; exact ⟨q1, A1, c1, P1, d1, getk' e (by decide), getk' e5 (by decide), h1, h.below hE h.lt⟩))) | exact absurd rfl (hdep _ rfl ⟨3, .data⟩ (by simp) rfl)
        · rcases hi with rfl | rfl | rfl | rfl | rfl | rfl | rfl | rfl | rfl | rfl | rfl
          all_goals first | exact absurd rfl hij | exact trivial | (simp only at hE h ⊢; (first | exact trivial | exact getk' h (by decide) | (obtain ⟨A1, c1, P1, d1, e, h⟩ := h; exact ⟨A1, c1, P1, d1, getk' e (by decide), getk' h (by decide)⟩) | (obtain ⟨A1, c1, P1, d1, e, h⟩ := h; exact ⟨A1, c1, P1, d1, getk' e (by decide), (h.imp (List.mem_cons_of_mem _) fun ⟨lo', hi', h1, h2⟩ => ⟨lo', hi', h1, h2.below hE⟩)⟩) | (obtain ⟨q1, cs1, e, h1, h2, h⟩ := h; exact ⟨q1, cs1, getk' e (by decide), h1, h2, h.below hE h.lt⟩) | exact (h.below hE).slot (getk' rfl (by decide)) | (obtain ⟨q1, A1, c1, P1, d1, e, e5, h1, h⟩ := h; exact ⟨q1, A1, c1, P1, d1, getk' e (by decide), getk' e5 (by decide), h1, h.below hE h.lt⟩))) | exact absurd rfl (hdep _ rfl ⟨4, .data⟩ (by simp) rfl)
        · rcases hi with rfl | rfl | rfl | rfl | rfl | rfl | rfl | rfl | rfl | rfl | rfl
          · simp only at hE h ⊢; (first | exact trivial | exact getk' h (by decide) | (obtain ⟨A1, c1, P1, d1, e, h⟩ := h; exact ⟨A1, c1, P1, d1, getk' e (by decide), getk' h (by decide)⟩) | (obtain ⟨A1, c1, P1, d1, e, h⟩ := h; exact ⟨A1, c1, P1, d1, getk' e (by decide), (.inl (by simp))⟩) | (obtain ⟨q1, cs1, e, h1, h2, h⟩ := h; exact ⟨q1, cs1, getk' e (by decide), h1, h2, hE _ _ h⟩))
          · simp only at hE h ⊢; (first | exact trivial | exact getk' h (by decide) | (obtain ⟨A1, c1, P1, d1, e, h⟩ := h; exact ⟨A1, c1, P1, d1, getk' e (by decide), getk' h (by decide)⟩) | (obtain ⟨A1, c1, P1, d1, e, h⟩ := h; exact ⟨A1, c1, P1, d1, getk' e (by decide), (.inl (by simp))⟩) | (obtain ⟨q1, cs1, e, h1, h2, h⟩ := h; exact ⟨q1, cs1, getk' e (by decide), h1, h2, hE _ _ h⟩))
          · simp only at hE h ⊢; (first | exact trivial | exact getk' h (by decide) | (obtain ⟨A1, c1, P1, d1, e, h⟩ := h; exact ⟨A1, c1, P1, d1, getk' e (by decide), getk' h (by decide)⟩) | (obtain ⟨A1, c1, P1, d1, e, h⟩ := h; exact ⟨A1, c1, P1, d1, getk' e (by decide), (.inl (by simp))⟩) | (obtain ⟨q1, cs1, e, h1, h2, h⟩ := h; exact ⟨q1, cs1, getk' e (by decide), h1, h2, hE _ _ h⟩))
          · simp only at hE h ⊢; (first | exact trivial | exact getk' h (by decide) | (obtain ⟨A1, c1, P1, d1, e, h⟩ := h; exact ⟨A1, c1, P1, d1, getk' e (by decide), getk' h (by decide)⟩) | (obtain ⟨A1, c1, P1, d1, e, h⟩ := h; exact ⟨A1, c1, P1, d1, getk' e (by decide), (.inl (by simp))⟩) | (obtain ⟨q1, cs1, e, h1, h2, h⟩ := h; exact ⟨q1, cs1, getk' e (by decide), h1, h2, hE _ _ h⟩))
          · simp only at hE h ⊢; (first | exact trivial | exact getk' h (by decide) | (obtain ⟨A1, c1, P1, d1, e, h⟩ := h; exact ⟨A1, c1, P1, d1, getk' e (by decide), getk' h (by decide)⟩) | (obtain ⟨A1, c1, P1, d1, e, h⟩ := h; exact ⟨A1, c1, P1, d1, getk' e (by decide), (.inl (by simp))⟩) | (obtain ⟨q1, cs1, e, h1, h2, h⟩ := h; exact ⟨q1, cs1, getk' e (by decide), h1, h2, hE _ _ h⟩))
          · exact absurd rfl hij
          · exact absurd rfl (hdep _ rfl ⟨5, .data⟩ (by simp) rfl)
          · exact absurd (hcl 6 _ (hcl 7 _ hiS rfl ⟨6, .data⟩ (by simp) rfl) rfl ⟨5, .data⟩ (by simp) rfl) hjS
          · exact absurd (hcl 6 _ (hcl 8 _ hiS rfl ⟨6, .data⟩ (by simp) rfl) rfl ⟨5, .data⟩ (by simp) rfl) hjS
          · simp only at hE h ⊢; (first | exact trivial | exact getk' h (by decide) | (obtain ⟨A1, c1, P1, d1, e, h⟩ := h; exact ⟨A1, c1, P1, d1, getk' e (by decide), getk' h (by decide)⟩) | (obtain ⟨A1, c1, P1, d1, e, h⟩ := h; exact ⟨A1, c1, P1, d1, getk' e (by decide), (.inl (by simp))⟩) | (obtain ⟨q1, cs1, e, h1, h2, h⟩ := h; exact ⟨q1, cs1, getk' e (by decide), h1, h2, hE _ _ h⟩))
          · exact absurd rfl (hdep _ rfl ⟨5, .chain⟩ (by simp) rfl)
        · rcases hi with rfl | rfl | rfl | rfl | rfl | rfl | rfl | rfl | rfl | rfl | rfl
          all_goals first | exact absurd rfl hij | exact trivial | (simp only at hE h ⊢; (first | exact trivial | exact getk' h (by decide) | (obtain ⟨A1, c1, P1, d1, e, h⟩ := h; exact ⟨A1, c1, P1, d1, getk' e (by decide), getk' h (by decide)⟩) | (obtain ⟨A1, c1, P1, d1, e, h⟩ := h; exact ⟨A1, c1, P1, d1, getk' e (by decide), (h.imp (List.mem_cons_of_mem _) fun ⟨lo', hi', h1, h2⟩ => ⟨lo', hi', h1, h2.below hE⟩)⟩) | (obtain ⟨q1, cs1, e, h1, h2, h⟩ := h; exact ⟨q1, cs1, getk' e (by decide), h1, h2, h.below hE h.lt⟩) | exact (h.below hE).slot (getk' rfl (by decide)) | (obtain ⟨q1, A1, c1, P1, d1, e, e5, h1, h⟩ := h; exact ⟨q1, A1, c1, P1, d1, getk' e (by decide), getk' e5 (by decide), h1, h.below hE h.lt⟩))) | exact absurd rfl (hdep _ rfl ⟨6, .data⟩ (by simp) rfl)
        · rcases hi with rfl | rfl | rfl | rfl | rfl | rfl | rfl | rfl | rfl | rfl | rfl
          all_goals first | exact absurd rfl hij | exact trivial | (simp only at hE h ⊢; (first | exact trivial | exact getk' h (by decide) | (obtain ⟨A1, c1, P1, d1, e, h⟩ := h; exact ⟨A1, c1, P1, d1, getk' e (by decide), getk' h (by decide)⟩) | (obtain ⟨A1, c1, P1, d1, e, h⟩ := h; exact ⟨A1, c1, P1, d1, getk' e (by decide), (h.imp (List.mem_cons_of_mem _) fun ⟨lo', hi', h1, h2⟩ => ⟨lo', hi', h1, h2.below hE⟩)⟩) | (obtain ⟨q1, cs1, e, h1, h2, h⟩ := h; exact ⟨q1, cs1, getk' e (by decide), h1, h2, h.below hE h.lt⟩) | exact (h.below hE).slot (getk' rfl (by decide)) | (obtain ⟨q1, A1, c1, P1, d1, e, e5, h1, h⟩ := h; exact ⟨q1, A1, c1, P1, d1, getk' e (by decide), getk' e5 (by decide), h1, h.below hE h.lt⟩))) | exact absurd rfl (hdep _ rfl ⟨7, .data⟩ (by simp) rfl)
        · rcases hi with rfl | rfl | rfl | rfl | rfl | rfl | rfl | rfl | rfl | rfl | rfl
          all_goals first | exact absurd rfl hij | exact trivial | (simp only at hE h ⊢; (first | exact trivial | exact getk' h (by decide) | (obtain ⟨A1, c1, P1, d1, e, h⟩ := h; exact ⟨A1, c1, P1, d1, getk' e (by decide), getk' h (by decide)⟩) | (obtain ⟨A1, c1, P1, d1, e, h⟩ := h; exact ⟨A1, c1, P1, d1, getk' e (by decide), (h.imp (List.mem_cons_of_mem _) fun ⟨lo', hi', h1, h2⟩ => ⟨lo', hi', h1, h2.below hE⟩)⟩) | (obtain ⟨q1, cs1, e, h1, h2, h⟩ := h; exact ⟨q1, cs1, getk' e (by decide), h1, h2, h.below hE h.lt⟩) | exact (h.below hE).slot (getk' rfl (by decide)) | (obtain ⟨q1, A1, c1, P1, d1, e, e5, h1, h⟩ := h; exact ⟨q1, A1, c1, P1, d1, getk' e (by decide), getk' e5 (by decide), h1, h.below hE h.lt⟩))) | exact absurd rfl (hdep _ rfl ⟨8, .data⟩ (by simp) rfl)
        · rcases hi with rfl | rfl | rfl | rfl | rfl | rfl | rfl | rfl | rfl | rfl | rfl
          all_goals first | exact absurd rfl hij | exact trivial | (simp only at hE h ⊢; (first | exact trivial | exact getk' h (by decide) | (obtain ⟨A1, c1, P1, d1, e, h⟩ := h; exact ⟨A1, c1, P1, d1, getk' e (by decide), getk' h (by decide)⟩) | (obtain ⟨A1, c1, P1, d1, e, h⟩ := h; exact ⟨A1, c1, P1, d1, getk' e (by decide), (h.imp (List.mem_cons_of_mem _) fun ⟨lo', hi', h1, h2⟩ => ⟨lo', hi', h1, h2.below hE⟩)⟩) | (obtain ⟨q1, cs1, e, h1, h2, h⟩ := h; exact ⟨q1, cs1, getk' e (by decide), h1, h2, h.below hE h.lt⟩) | exact (h.below hE).slot (getk' rfl (by decide)) | (obtain ⟨q1, A1, c1, P1, d1, e, e5, h1, h⟩ := h; exact ⟨q1, A1, c1, P1, d1, getk' e (by decide), getk' e5 (by decide), h1, h.below hE h.lt⟩))) | exact absurd rfl (hdep _ rfl ⟨9, .data⟩ (by simp) rfl)
        · rcases hi with rfl | rfl | rfl | rfl | rfl | rfl | rfl | rfl | rfl | rfl | rfl
          all_goals first | exact absurd rfl hij | exact trivial | (simp only at hE h ⊢; (first | exact trivial | exact getk' h (by decide) | (obtain ⟨A1, c1, P1, d1, e, h⟩ := h; exact ⟨A1, c1, P1, d1, getk' e (by decide), getk' h (by decide)⟩) | (obtain ⟨A1, c1, P1, d1, e, h⟩ := h; exact ⟨A1, c1, P1, d1, getk' e (by decide), (h.imp (List.mem_cons_of_mem _) fun ⟨lo', hi', h1, h2⟩ => ⟨lo', hi', h1, h2.turn hE⟩)⟩) | (obtain ⟨q1, cs1, e, h1, h2, h⟩ := h; obtain ⟨cs2, h3, h4⟩ := hE.box h; exact ⟨q1, cs2, getk' e (by decide), h1, h3.trans h2, h4⟩) | exact (h.turn hE).slot (getk' rfl (by decide)))) | exact absurd rfl (hdep _ rfl ⟨10, .data⟩ (by simp) rfl)
      · intro S j7 o hj hjS hcl ho a' w' hC hsame hdep
        have hW0 : w.heap.size ≤ wr.heap.size := hsw
        have hz : wr.heap.size ≤ w'.heap.size := hC.1.size
        simp only [List.mem_cons, List.not_mem_nil, or_false] at hj
        rcases hj with rfl | rfl | rfl | rfl | rfl | rfl | rfl | rfl | rfl | rfl | rfl
        all_goals obtain rfl := Option.some.inj ho
        · have hs : a'.tmps.getD 4 undef = .pointer (some ⟨w1.heap.size, 0, none⟩) := hsame 4 (by rfl)
          have zz := (hC.2.1 _ (by decide) (by decide) _ _ HX.out).cell
          refine wp_val (w2 := w') (.agg #[.slice A' ln.length c', .slice P' lp.length d']) (fun K hK => ?_) ⟨_, rfl, ⟨hC.1, hC.2.1, hC.2.2.imp (List.mem_cons_of_mem _) id⟩, Below.refl _ _, fun b hb hb2 => hb 21 rfl⟩
          clear hsame hdep
          unfold Oper.wp
          simp [execOp, Act.eval, go_sem, hs, zz]
          exact hK
        · have hs : a'.tmps.getD 0 undef = .slice (some ⟨b0, off, none⟩) la.length c := hsame 0 (by rfl)
          refine wp_val (w2 := w') (.slice (some ⟨b0, off, none⟩) la.length c) (fun K hK => ?_) ⟨_, rfl, ⟨hC.1, hC.2.1, hC.2.2.imp (List.mem_cons_of_mem _) id⟩, Below.refl _ _, fun b hb hb2 => hb 22 rfl⟩
          clear hsame hdep
          unfold Oper.wp
          simp [execOp, Act.eval, go_sem, hs]
          exact hK
        · have hs : a'.tmps.getD 6 undef = .int .i64 (k : Int) := hsame 6 (by rfl)
          refine wp_val (w2 := w') (.int .i64 (k : Int)) (fun K hK => ?_) ⟨_, rfl, ⟨hC.1, hC.2.1, hC.2.2.imp (List.mem_cons_of_mem _) id⟩, Below.refl _ _, fun b hb hb2 => hb 23 rfl⟩
          clear hsame hdep
          unfold Oper.wp
          simp [execOp, Act.eval, go_sem, hs]
          exact hK
        · have e1 : a'.tmps.getD 22 undef = .slice (some ⟨b0, off, none⟩) la.length c := hdep ⟨1, .data⟩ (by simp) rfl
          have e2 : a'.tmps.getD 23 undef = .int .i64 (k : Int) := hdep ⟨2, .data⟩ (by simp) rfl
          refine wp_val (w2 := w') (.pointer (some ⟨b0, off + k * 8, none⟩)) (fun K hK => ?_) ⟨_, rfl, ⟨hC.1, hC.2.1, hC.2.2.imp (List.mem_cons_of_mem _) id⟩, Below.refl _ _, fun b hb hb2 => hb 24 rfl⟩
          clear hsame hdep
          unfold Oper.wp
          simp [execOp, Act.eval, go_sem, e1, e2, hkn]
          exact hK
        · have e1 : a'.tmps.getD 24 undef = .pointer (some ⟨b0, off + k * 8, none⟩) := hdep ⟨3, .data⟩ (by simp) rfl
          have y0 := ((HB.out.trans hC.1).cell (p := ⟨b0, off + k * 8, none⟩) hb1).trans z0
          have y1 := ((HB.out.trans hC.1).cell (p := ⟨b0, off + k * 8 + 1, none⟩) hb1).trans z1
          have y2 := ((HB.out.trans hC.1).cell (p := ⟨b0, off + k * 8 + 2, none⟩) hb1).trans z2
          have y3 := ((HB.out.trans hC.1).cell (p := ⟨b0, off + k * 8 + 3, none⟩) hb1).trans z3
          have y4 := ((HB.out.trans hC.1).cell (p := ⟨b0, off + k * 8 + 4, none⟩) hb1).trans z4
          have y5 := ((HB.out.trans hC.1).cell (p := ⟨b0, off + k * 8 + 5, none⟩) hb1).trans z5
          have y6 := ((HB.out.trans hC.1).cell (p := ⟨b0, off + k * 8 + 6, none⟩) hb1).trans z6
          have y7 := ((HB.out.trans hC.1).cell (p := ⟨b0, off + k * 8 + 7, none⟩) hb1).trans z7
          refine wp_val (w2 := w') (.agg #[.int .i64 aq.k, .int .i64 aq.a, .int .i64 aq.b, .int .i64 aq.m.k, .int .i64 aq.m.r, .int .i64 aq.m.v, .int .i64 aq.m.p, .int .i64 aq.m.f]) (fun K hK => ?_) ⟨_, rfl, ⟨hC.1, hC.2.1, hC.2.2.imp (List.mem_cons_of_mem _) id⟩, Below.refl _ _, fun b hb hb2 => hb 25 rfl⟩
          clear hsame hdep
          unfold Oper.wp
          simp [execOp, Act.eval, go_sem, e1, y0, y1, y2, y3, y4, y5, y6, y7]
          exact hK
        · have e1 : a'.tmps.getD 21 undef = .agg #[.slice A' ln.length c', .slice P' lp.length d'] := hdep ⟨0, .data⟩ (by simp) rfl
          have e2 : a'.tmps.getD 25 undef = .agg #[.int .i64 aq.k, .int .i64 aq.a, .int .i64 aq.b, .int .i64 aq.m.k, .int .i64 aq.m.r, .int .i64 aq.m.v, .int .i64 aq.m.p, .int .i64 aq.m.f] := hdep ⟨4, .data⟩ (by simp) rfl
          have nets := hC.2.2.resolve_left hjS
          have hz1 : lo1 ≤ w'.heap.size := Nat.le_trans nets.hl nets.hh
          refine wp_call (fun u wq => NetF r w.heap.size u wq ∧ Below w.heap.size w' wq ∧ ∀ T, T ≠ 79 → T ≠ 49 → ∀ q cs, Blk w' q T cs → Blk wq q T cs) (fun K hK => ?_) ?_
          · clear hsame hdep
            unfold Oper.wp
            simp [Act.eval, e1, e2, go_sem]
            refine (l17Do_any lo1 hi1 _ _ _ _ ln lp _ _ _ _ _ nets HBT.out).mono ?_
            rintro e w3' ⟨A7, c7, P7, d7, hi7, he, hs7, hc7, hk7⟩
            rw [HRG.out] at he hs7
            subst he
            exact hK _ _ ⟨⟨A7, c7, P7, d7, lo1, hi7, rfl, hlo1, hs7⟩, hc7.below hlo1 (by omega), hk7⟩
          · rintro u w3' ⟨hnf, hb3, hk3⟩
            exact ⟨_, rfl, ⟨hC.1.trans hb3, fun T h1 h2 q cs h => hk3 T h1 h2 q cs (hC.2.1 T h1 h2 q cs h), .inl (by simp)⟩, hk3 _ (by decide) (by decide), fun b hb _ => hnf.slot (hb 26 rfl)⟩
        · obtain ⟨A7, c7, P7, d7, lo7, hi7, e1, hlo7, hs7⟩ := hdep ⟨5, .data⟩ (by simp) rfl
          refine wp_val (w2 := w') (.tuple #[.agg #[.slice A7 r.1.length c7, .slice P7 r.2.1.length d7], .bool r.2.2]) (fun K hK => ?_) ⟨_, rfl, ⟨hC.1, hC.2.1, hC.2.2.imp (List.mem_cons_of_mem _) id⟩, Below.refl _ _, fun b hb hb2 => ⟨A7, c7, P7, d7, lo7, hi7, hb 20 rfl, hlo7, hs7⟩⟩
          clear hsame hdep
          unfold Oper.wp
          simp [execOp, Act.eval, go_sem, e1]
          exact hK
        · obtain ⟨A7, c7, P7, d7, lo7, hi7, e1, hlo7, hs7⟩ := hdep ⟨6, .data⟩ (by simp) rfl
          refine wp_val (w2 := w') (.agg #[.slice A7 r.1.length c7, .slice P7 r.2.1.length d7]) (fun K hK => ?_) ⟨_, rfl, ⟨hC.1, hC.2.1, hC.2.2.imp (List.mem_cons_of_mem _) id⟩, Below.refl _ _, fun b hb hb2 => ⟨A7, c7, P7, d7, (hb2 20 (by intro d h; cases h; decide)).trans e1, hb 27 rfl⟩⟩
          clear hsame hdep
          unfold Oper.wp
          simp [execOp, Act.eval, go_sem, e1]
          exact hK
        · obtain ⟨A7, c7, P7, d7, lo7, hi7, e1, hlo7, hs7⟩ := hdep ⟨6, .data⟩ (by simp) rfl
          refine wp_val (w2 := w') (.bool r.2.2) (fun K hK => ?_) ⟨_, rfl, ⟨hC.1, hC.2.1, hC.2.2.imp (List.mem_cons_of_mem _) id⟩, Below.refl _ _, fun b hb hb2 => hb 28 rfl⟩
          clear hsame hdep
          unfold Oper.wp
          simp [execOp, Act.eval, go_sem, e1]
          exact hK
        · have hnew := heap_alloc_new w' (.cells #[.slice none 0 0, .slice none 0 0] 27)
          have hbl' : Below w'.heap.size w' (w'.alloc (.cells #[.slice none 0 0, .slice none 0 0] 27)) := (Below.refl _ _).alloc (Nat.le_refl _) _
          have hbl := hbl'.mono (show w.heap.size ≤ w'.heap.size by omega)
          refine wp_val (w2 := w'.alloc (.cells #[.slice none 0 0, .slice none 0 0] 27)) (.pointer (some ⟨w'.heap.size, 0, none⟩)) (fun K hK => ?_) ⟨_, rfl, ⟨hC.1.trans hbl, fun T h1 h2 q cs h => (hC.2.1 T h1 h2 q cs h).below hbl' (hC.2.1 T h1 h2 q cs h).lt, hC.2.2.imp (List.mem_cons_of_mem _) fun h => h.below hbl'⟩, hbl', fun b hb _ => ⟨w'.heap.size, _, hb 7 rfl, hz, rfl, show Blk _ _ _ _ from hnew⟩⟩
          clear hsame hdep hnew hbl hbl'
          unfold Oper.wp
          simp [execOp, go_sem]
          exact hK
        · obtain ⟨q0, cs0, e1, hq0, hsz, hblk⟩ := hdep ⟨9, .data⟩ (by simp) rfl
          obtain ⟨A7, c7, P7, d7, e3, e2⟩ := hdep ⟨7, .data⟩ (by simp) rfl
          clear e3
          obtain ⟨u0, u1, rfl⟩ := two_cells hsz
          have zz := hblk.cell
          have ff := hblk.frozen
          obtain ⟨w9, hw9⟩ : ∃ z, z = ((w'.setCell ⟨q0, 0, none⟩ (.slice A7 r.1.length c7)).setCell ⟨q0, 1, none⟩ (.slice P7 r.2.1.length d7)) := ⟨_, rfl⟩
          have hchg : Chg q0 (q0 + 1) w' w9 := by rw [hw9]; (repeat (first | with_reducible refine Chg.setCell ?_ (by first | exact Nat.le_refl _ | (simp; done) | (simp; omega)) (by first | (simp; done) | (simp; omega)) _ | with_reducible refine Chg.alloc ?_ _ | with_reducible refine Chg.drew ?_)); (with_reducible exact Chg.refl _ _ _)
          have hblk2 : Blk w9 q0 27 #[.slice A7 r.1.length c7, .slice P7 r.2.1.length d7] := by
            rw [hw9]
            have hb := (hblk.set_ 0 (.slice A7 r.1.length c7)).set_ 1 (.slice P7 r.2.1.length d7)
            simp only [List.setIfInBounds_toArray, List.set_cons_zero, List.set_cons_succ] at hb
            exact hb
          have hturn := BoxTurn.of_blk hblk hblk2 rfl hchg
          have hcls : (fun S wx => Below w.heap.size wr wx ∧ (∀ T, T ≠ 79 → T ≠ 49 → ∀ q cs, Blk wr q T cs → Blk wx q T cs) ∧ (5 ∈ S ∨ NetS wx lo1 hi1 A' c' P' d' ln lp)) (10 :: S) w9 := ⟨hC.1.trans (hchg.below (Nat.le_trans hW0 hq0) (by omega)), fun T h1 h2 q cs h => (hC.2.1 T h1 h2 q cs h).off hchg (.inl (Nat.lt_of_lt_of_le h.lt hq0)), hC.2.2.imp (List.mem_cons_of_mem _) fun h => h.turn hturn⟩
          refine wp_val (w2 := w9) undef (fun K hK => ?_) ⟨_, rfl, hcls, hturn, fun b _ hb => ⟨q0, A7, c7, P7, d7, (hb 7 (by intro d h; cases h)).trans e1, (hb 27 (by intro d h; cases h)).trans e2, hq0, hblk2⟩⟩
          rw [hw9] at hK
          clear hsame hdep hchg hblk2 hturn hcls hw9 hblk
          unfold Oper.wp
          simp [execOp, Act.eval, e1, e2, go_sem, zz, ff]
          exact hK
      · intro S a' w' hall hC ha hP
        obtain ⟨q0, A7, c7, P7, d7, t1, f1, hq0, hblk⟩ := hP 10 (by simp)
        obtain ⟨A8, c8, P8, d8, f3, f2⟩ := hP 7 (by simp)
        obtain ⟨A9, c9, P9, d9, lo9, hi9, f4, hlo9, hs9⟩ := hP 6 (by simp)
        have t4 : a'.tmps.getD 28 undef = .bool r.2.2 := hP 8 (by simp)
        clear hP
        have ex := f1.symm.trans f2
        simp only [Value.agg.injEq, Array.mk.injEq, List.cons.injEq, Value.slice.injEq, true_and, and_true] at ex
        obtain ⟨⟨rfl, rfl⟩, rfl, rfl⟩ := ex
        have ey := f3.symm.trans f4
        simp only [Value.tuple.injEq, Value.agg.injEq, Array.mk.injEq, List.cons.injEq, Value.slice.injEq, true_and, and_true] at ey
        obtain ⟨⟨rfl, rfl⟩, rfl, rfl⟩ := ey
        clear f1 f2 f3 f4
        simp only [coreOps, List.filterMap_cons, List.filterMap_nil, List.getElem?_cons_zero, List.getElem?_cons_succ, fillA, slotOf, Act.put, t1, t4] at ha
        generalize a'.tmps.getD 21 undef = u21 at ha
        generalize a'.tmps.getD 22 undef = u22 at ha
        generalize a'.tmps.getD 23 undef = u23 at ha
        generalize a'.tmps.getD 24 undef = u24 at ha
        generalize a'.tmps.getD 25 undef = u25 at ha
        generalize a'.tmps.getD 26 undef = u26 at ha
        generalize a'.tmps.getD 20 undef = u20 at ha
        generalize a'.tmps.getD 27 undef = u27 at ha
        subst ha
        have HK := Lib.hid hblk
        have HF := Lib.hid hs9
        have HC1 := Lib.hid hC.1
        have HC2 := Lib.hid hC.2.1
        clear hblk hs9 hC hall
        show wpAny _ _ _ _ 1 _ _ _
        refine wpAny_ready (rs := [11]) (by kernel_rfl) (by simp) ?_
        refine AllReady.cons rfl (fun K hK => ?_) AllReady.nil
        go_simp
        refine hK _ _ ?_
        clear hK K
        refine wpAny_done (by kernel_rfl) ?_ _
        have cez := HK.out.cell
        have lbz := HK.out.lt
        have HX5 := Lib.hid (HC2.out _ (by decide) (by decide) _ _ HX.out)
        have HR5 := Lib.hid (HC2.out _ (by decide) (by decide) _ _ HR.out)
        have cex := HX5.out.cell
        have fzx := HX5.out.frozen
        have lbx := HX5.out.lt
        have D : Chg w1.heap.size (w1.heap.size + 1) w' ((w'.setCell ⟨w1.heap.size, 0, none⟩ (.slice A7 r.1.length c7)).setCell ⟨w1.heap.size, 1, none⟩ (.slice P7 r.2.1.length d7)) := by (repeat (first | with_reducible refine Chg.setCell ?_ (by first | exact Nat.le_refl _ | (simp; done) | (simp; omega)) (by first | (simp; done) | (simp; omega)) _ | with_reducible refine Chg.alloc ?_ _ | with_reducible refine Chg.drew ?_)); (with_reducible exact Chg.refl _ _ _)
        have HXN : Hid (Blk ((w'.setCell ⟨w1.heap.size, 0, none⟩ (.slice A7 r.1.length c7)).setCell ⟨w1.heap.size, 1, none⟩ (.slice P7 r.2.1.length d7)) w1.heap.size 27 #[.slice A7 r.1.length c7, .slice P7 r.2.1.length d7]) := Lib.hid (by
          have h := (HX5.out.set_ 0 (.slice A7 r.1.length c7)).set_ 1 (.slice P7 r.2.1.length d7)
          simpa using h)
        have HRN := Lib.hid (show Blk _ w.heap.size _ _ from (D.block _ HR5.out.lt (.inl (by omega))).trans HR5.out)
        have HFN := Lib.hid (HF.out.box HX5.out (by decide) (by decide) D)
        have BN := Lib.hid ((HB.out.trans HC1.out).trans (D.below (B := w.heap.size) (by omega) (by omega)))
        clear D
        obtain ⟨ok, hok⟩ : ∃ ok, r.2.2 = ok := ⟨_, rfl⟩
        rw [hok]
        have HSQ : Hid (playTo (la.take (k + 1)) = ((r.1, r.2.1), if ok = true then cnt + 1 else cnt)) := Lib.hid (by rw [← hok]; exact HSTEP.out)
        clear hok HSTEP z0 z1 z2 z3 z4 z5 z6 z7
        cases ok
        · have HS2 : Hid (playTo (la.take (k + 1)) = ((r.1, r.2.1), cnt)) := Lib.hid HSQ.out
          go_wp2_with fail
          go_roundw
          case rel => exact ⟨k + 1, lo9, hi9, A7, c7, P7, d7, by omega, by go_num, by rw [HS2.out], hlo9, by rw [HS2.out]; exact HFN.out, by rw [HS2.out]; exact HXN.out, HRN.out, BN.out⟩
          case measure => simp [intOf]; omega
        · have HS2 : Hid (playTo (la.take (k + 1)) = ((r.1, r.2.1), cnt + 1)) := Lib.hid HSQ.out
          go_wp2_with fail
          go_roundw
          case rel => exact ⟨k + 1, lo9, hi9, A7, c7, P7, d7, by omega, by go_num, by rw [HS2.out]; go_num, hlo9, by rw [HS2.out]; exact HFN.out, by rw [HS2.out]; exact HXN.out, HRN.out, BN.out⟩
          case measure => simp [intOf]; omega
    · obtain rfl : k = la.length := by omega
      rw [List.take_length] at HS HX hcnt ⊢
      have cex := HX.out.cell
      have cer := HR.out.cell
      have fzr := HR.out.frozen
      have lbr := HR.out.lt
      generalize playTo la = x at *
      go_wp2_with fail
      refine bodyPost_ret (v := .tuple #[.agg #[.slice A' x.1.1.length c', .slice P' x.1.2.length d'], .int .i64 (x.2 : Int)]) (by simp [results, Try.results8, go_sem, cer]) rfl ?_
      rw [HE.out]
      refine ⟨A', c', P', d', lo1, hi1, rfl, hlo1, HS.out.box HR.out (by decide) (by decide) (by (repeat (first | with_reducible refine Chg.setCell ?_ (by first | exact Nat.le_refl _ | (simp; done) | (simp; omega)) (by first | (simp; done) | (simp; omega)) _ | with_reducible refine Chg.alloc ?_ _ | with_reducible refine Chg.drew ?_)); (with_reducible exact Chg.refl _ _ _)), ?_⟩
      (repeat (first | with_reducible refine Below.setCell ?_ (by first | exact Nat.le_refl _ | (simp; done) | (simp; omega)) _ | with_reducible refine Below.alloc ?_ (by first | exact Nat.le_refl _ | (simp; done) | (simp; omega)) _ | with_reducible refine Below.drew ?_)); (with_reducible exact HB.out)
end Go.Proofs.Ytjgaelnonacdkaa
