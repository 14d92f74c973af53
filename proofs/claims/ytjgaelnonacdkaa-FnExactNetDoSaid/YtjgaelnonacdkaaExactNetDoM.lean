/- The program's NetDo returns what the reference's returns, for all arguments. No conditions. (written by wip/exnetdo.py) -/
import Derived.Deep.RegionWith
import Derived.Deep.DeepCutAuto
import Derived.Test.YtjgaelnonacdkaaG47
import Derived.Test.YtjgaelnonacdkaaG48
import Derived.Test.YtjgaelnonacdkaaMElNode
import Derived.Test.YtjgaelnonacdkaaMElNetAct
import Derived.Test.YtjgaelnonacdkaaL
namespace Go.Proofs.Ytjgaelnonacdkaa
open Go.ChangeShapes Go.WideShapes Go.ChangeAt Go.RowKit Go.Joins

set_option maxRecDepth 100000 in
theorem open_act {H : Type} {enc : TypeId × Value → H} {w : World} {r : Reach} {b0 : Nat} {v : Value} {d : DataW H} {p : List MemPlace} (hv : Value.okWide Try.prog w r b0 44 v) (h : DataW.Trod enc Try.prog w 0 (fun _ => true) true 44 v d p) :
    ∃ (ak aa ab : Int) (m : NMsgD), v = .agg #[.int .i64 ak, .int .i64 aa, .int .i64 ab, .int .i64 m.k, .int .i64 m.r, .int .i64 m.v, .int .i64 m.p, .int .i64 m.f] := by
  obtain ⟨cs, rfl, hlen, n, hf⟩ := agg_fields Try.underlying44 hv h
  obtain ⟨y0, h0⟩ := hf 0 _ rfl
  obtain ⟨y1, h1⟩ := hf 1 _ rfl
  obtain ⟨y2, h2⟩ := hf 2 _ rfl
  obtain ⟨y3, h3⟩ := hf 3 _ rfl
  match cs, hlen.trans cellsNetAct with
  | [c0, c1, c2, c3, c4, c5, c6, c7], _ =>
    obtain ⟨a0, rfl, _, _⟩ := field_int Try.underlying3 h0
    obtain ⟨a1, rfl, _, _⟩ := field_int Try.underlying3 h1
    obtain ⟨a2, rfl, _, _⟩ := field_int Try.underlying3 h2
    obtain ⟨x, hx⟩ := msg_el h3
    have e0 : List.take (Try.prog.cellsOf 42) (List.drop 3 [Value.int .i64 a0, Value.int .i64 a1, Value.int .i64 a2, c3, c4, c5, c6, c7]) = [c3, c4, c5, c6, c7] := by rw [cellsNMsgA]; rfl
    have hx' : [c3, c4, c5, c6, c7] = msgC x := e0.symm.trans hx
    simp only [msgC, List.cons.injEq, and_true] at hx'
    obtain ⟨rfl, rfl, rfl, rfl, rfl⟩ := hx'
    exact ⟨a0, a1, a2, x, rfl⟩

set_option maxRecDepth 100000 in
set_option maxHeartbeats 16000000 in
theorem ExactNetDo_walk (A : Option Addr) (c : Nat) (P : Option Addr) (d : Nat) (ln : List NodeD) (lp : List NMsgD) (ak aa ab : Int) (m : NMsgD) (w : World) (hl : NodesRd w w.heap.size A ln.length c ln) (hp : RdL msgC 5 w w.heap.size P lp.length d lp) :
    Calls Try.prog 4 #[.agg #[.slice A ln.length c, .slice P lp.length d], .agg #[.int .i64 ak, .int .i64 aa, .int .i64 ab, .int .i64 m.k, .int .i64 m.r, .int .i64 m.v, .int .i64 m.p, .int .i64 m.f]] w fun e w' => e = .returned (.bool true) ∧ Below w.heap.size w w' := by
  have HL := Lib.hid hl
  have HP := Lib.hid hp
  clear hl hp
  obtain ⟨r, hr⟩ : ∃ r, doN ln lp ⟨ak, aa, ab, m⟩ = r := ⟨_, rfl⟩
  obtain ⟨hz1, hz2, hz3, hz4⟩ : szND r.1 ≤ 1000000 ∧ r.1.length ≤ 3 ∧ r.2.1.length ≤ 150 ∧ ∀ x ∈ r.1, x.l.length ≤ 1048576 := by rw [← hr]; exact doN_small _
  have HRR := Lib.hid hr
  clear hr hz4
  have sz2 : ∀ (o1 o2 : Obj), (((w.alloc o1).alloc o2).heap.size = w.heap.size + 1 + 1) := fun o1 o2 => by simp
  have HS2 := Lib.hid sz2
  clear sz2
  go_enter Try.func4, Try.ntmps4
  go_wp2_with fail
  refine (szNet2_any A ln.length c P lp.length d 1048576 ln lp _ ?_ ?_ (by decide) (by decide)).mono ?_
  · exact ((HL.out.alloc (Nat.le_refl _) _).alloc (by simp) _).more (by simp; omega)
  · exact ((HP.out.alloc (Nat.le_refl _) _).alloc (by simp) _).more (by simp; omega)
  rintro e w1 ⟨r0, rfl, hr1, hr2, hr3, hb⟩
  rw [HS2.out] at hb
  have XA1 : Hid (Blk w1 w.heap.size 40 #[.slice A ln.length c, .slice P lp.length d]) := Lib.hid (((show Blk (w.alloc _) w.heap.size _ _ from heap_alloc_new w _).alloc _).below hb (by omega))
  have XY1 : Hid (Blk w1 (w.heap.size + 1) 44 #[.int .i64 ak, .int .i64 aa, .int .i64 ab, .int .i64 m.k, .int .i64 m.r, .int .i64 m.v, .int .i64 m.p, .int .i64 m.f]) := Lib.hid (by
    have h := heap_alloc_new (w.alloc (.cells #[.slice A ln.length c, .slice P lp.length d] 40)) (.cells #[.int .i64 ak, .int .i64 aa, .int .i64 ab, .int .i64 m.k, .int .i64 m.r, .int .i64 m.v, .int .i64 m.p, .int .i64 m.f] 44)
    rw [World.size_alloc] at h
    exact (show Blk _ _ _ _ from h).below hb (by omega))
  have hs1 := hb.size
  rw [HS2.out] at hs1
  have B1 : Hid (Below w.heap.size w w1) := Lib.hid ((((Below.refl _ _).alloc (Nat.le_refl _) _).alloc (by simp) _).trans (hb.mono (by omega)))
  clear hb HS2
  by_cases hrr : r0 < 0
  · go_wp2_with fail
    go_ret
    exact ⟨rfl, B1.out⟩
  have HNN : Hid (ln.length ≤ 1048576 ∧ (∀ x ∈ ln, x.l.length ≤ 1048576) ∧ lp.length ≤ 1048576) := Lib.hid (by
    have h := hr1 (by omega)
    refine ⟨by omega, fun x hx => ?_, by omega⟩
    have := sumM_mem hx
    omega)
  have HZZ : Hid (szND ln ≤ 9437184) := Lib.hid (by
    have h := hr1 (by omega)
    rw [szND_sum]
    omega)
  clear hr1 hr2 hr3
  go_upto_region 5 with fail
  refine wp_region_core [0, 1, 2, 3, 4, 5, 6, 7, 8, 9] (fun wx => Below w1.heap.size w1 wx) (fun j wa wb => match j with | 9 => BoxTurn 27 wa wb | _ => Below wa.heap.size wa wb) (fun ii b wx => match ii with
    | 0 => b.tmps.getD 22 undef = .agg #[.slice A ln.length c, .slice P lp.length d]
    | 1 => NetVv w1.heap.size ln lp (b.tmps.getD 23 undef) wx
    | 2 => b.tmps.getD 24 undef = .agg #[.int .i64 ak, .int .i64 aa, .int .i64 ab, .int .i64 m.k, .int .i64 m.r, .int .i64 m.v, .int .i64 m.p, .int .i64 m.f]
    | 3 => b.tmps.getD 25 undef = .agg #[.int .i64 ak, .int .i64 aa, .int .i64 ab, .int .i64 m.k, .int .i64 m.r, .int .i64 m.v, .int .i64 m.p, .int .i64 m.f]
    | 4 => NetF r w1.heap.size (b.tmps.getD 26 undef) wx
    | 5 => NetF r w1.heap.size (b.tmps.getD 21 undef) wx
    | 6 => ∃ (A1 : Option Addr) (c1 : Nat) (P1 : Option Addr) (d1 : Nat), b.tmps.getD 21 undef = .tuple #[.agg #[.slice A1 r.1.length c1, .slice P1 r.2.1.length d1], .bool r.2.2] ∧ b.tmps.getD 27 undef = .agg #[.slice A1 r.1.length c1, .slice P1 r.2.1.length d1]
    | 7 => b.tmps.getD 28 undef = .bool r.2.2
    | 8 => ∃ (q : Nat) (cs : Array Value), b.tmps.getD 6 undef = .pointer (some ⟨q, 0, none⟩) ∧ w1.heap.size ≤ q ∧ cs.size = 2 ∧ Blk wx q 27 cs
    | 9 => ∃ (q : Nat) (A1 : Option Addr) (c1 : Nat) (P1 : Option Addr) (d1 : Nat), b.tmps.getD 6 undef = .pointer (some ⟨q, 0, none⟩) ∧ b.tmps.getD 27 undef = .agg #[.slice A1 r.1.length c1, .slice P1 r.2.1.length d1] ∧ w1.heap.size ≤ q ∧ Blk wx q 27 #[.slice A1 r.1.length c1, .slice P1 r.2.1.length d1]
    | _ => True) (by kernel_rfl) (by kernel_rfl) ((Below.refl _ _).drew) ?_ ?_ ?_
  · intro b wa wb i7 j7 oj v hi hj hij hoj hdep hE h
    simp only [List.mem_cons, List.not_mem_nil, or_false] at hi hj
    rcases hj with rfl | rfl | rfl | rfl | rfl | rfl | rfl | rfl | rfl | rfl
    all_goals obtain rfl := Option.some.inj hoj
    · rcases hi with rfl | rfl | rfl | rfl | rfl | rfl | rfl | rfl | rfl | rfl
      · exact absurd rfl hij
      · exact absurd rfl (hdep _ rfl ⟨0, .data⟩ (by simp) rfl)
      · simp only at hE h ⊢; exact getk' h (by decide)
      · simp only at hE h ⊢; exact getk' h (by decide)
      · simp only at hE h ⊢; exact (h.below hE).slot (getk' rfl (by decide))
      · simp only at hE h ⊢; exact (h.below hE).slot (getk' rfl (by decide))
      · simp only at hE h ⊢; obtain ⟨A1, c1, P1, d1, e, h⟩ := h; exact ⟨A1, c1, P1, d1, getk' e (by decide), getk' h (by decide)⟩
      · simp only at hE h ⊢; exact getk' h (by decide)
      · simp only at hE h ⊢; obtain ⟨q1, cs1, e, h1, h2, h⟩ := h; exact ⟨q1, cs1, getk' e (by decide), h1, h2, h.below hE h.lt⟩
      · simp only at hE h ⊢; obtain ⟨q1, A1, c1, P1, d1, e, e5, h1, h⟩ := h; exact ⟨q1, A1, c1, P1, d1, getk' e (by decide), getk' e5 (by decide), h1, h.below hE h.lt⟩
    · rcases hi with rfl | rfl | rfl | rfl | rfl | rfl | rfl | rfl | rfl | rfl
      · simp only at hE h ⊢; exact getk' h (by decide)
      · exact absurd rfl hij
      · simp only at hE h ⊢; exact getk' h (by decide)
      · simp only at hE h ⊢; exact getk' h (by decide)
      · exact absurd rfl (hdep _ rfl ⟨1, .data⟩ (by simp) rfl)
      · simp only at hE h ⊢; exact (h.below hE).slot (getk' rfl (by decide))
      · simp only at hE h ⊢; obtain ⟨A1, c1, P1, d1, e, h⟩ := h; exact ⟨A1, c1, P1, d1, getk' e (by decide), getk' h (by decide)⟩
      · simp only at hE h ⊢; exact getk' h (by decide)
      · simp only at hE h ⊢; obtain ⟨q1, cs1, e, h1, h2, h⟩ := h; exact ⟨q1, cs1, getk' e (by decide), h1, h2, h.below hE h.lt⟩
      · simp only at hE h ⊢; obtain ⟨q1, A1, c1, P1, d1, e, e5, h1, h⟩ := h; exact ⟨q1, A1, c1, P1, d1, getk' e (by decide), getk' e5 (by decide), h1, h.below hE h.lt⟩
    · rcases hi with rfl | rfl | rfl | rfl | rfl | rfl | rfl | rfl | rfl | rfl
      · simp only at hE h ⊢; exact getk' h (by decide)
      · simp only at hE h ⊢; exact (h.below hE).slot (getk' rfl (by decide))
      · exact absurd rfl hij
      · exact absurd rfl (hdep _ rfl ⟨2, .data⟩ (by simp) rfl)
      · simp only at hE h ⊢; exact (h.below hE).slot (getk' rfl (by decide))
      · simp only at hE h ⊢; exact (h.below hE).slot (getk' rfl (by decide))
      · simp only at hE h ⊢; obtain ⟨A1, c1, P1, d1, e, h⟩ := h; exact ⟨A1, c1, P1, d1, getk' e (by decide), getk' h (by decide)⟩
      · simp only at hE h ⊢; exact getk' h (by decide)
      · simp only at hE h ⊢; obtain ⟨q1, cs1, e, h1, h2, h⟩ := h; exact ⟨q1, cs1, getk' e (by decide), h1, h2, h.below hE h.lt⟩
      · simp only at hE h ⊢; obtain ⟨q1, A1, c1, P1, d1, e, e5, h1, h⟩ := h; exact ⟨q1, A1, c1, P1, d1, getk' e (by decide), getk' e5 (by decide), h1, h.below hE h.lt⟩
    · rcases hi with rfl | rfl | rfl | rfl | rfl | rfl | rfl | rfl | rfl | rfl
      · simp only at hE h ⊢; exact getk' h (by decide)
      · simp only at hE h ⊢; exact (h.below hE).slot (getk' rfl (by decide))
      · simp only at hE h ⊢; exact getk' h (by decide)
      · exact absurd rfl hij
      · exact absurd rfl (hdep _ rfl ⟨3, .data⟩ (by simp) rfl)
      · simp only at hE h ⊢; exact (h.below hE).slot (getk' rfl (by decide))
      · simp only at hE h ⊢; obtain ⟨A1, c1, P1, d1, e, h⟩ := h; exact ⟨A1, c1, P1, d1, getk' e (by decide), getk' h (by decide)⟩
      · simp only at hE h ⊢; exact getk' h (by decide)
      · simp only at hE h ⊢; obtain ⟨q1, cs1, e, h1, h2, h⟩ := h; exact ⟨q1, cs1, getk' e (by decide), h1, h2, h.below hE h.lt⟩
      · simp only at hE h ⊢; obtain ⟨q1, A1, c1, P1, d1, e, e5, h1, h⟩ := h; exact ⟨q1, A1, c1, P1, d1, getk' e (by decide), getk' e5 (by decide), h1, h.below hE h.lt⟩
    · rcases hi with rfl | rfl | rfl | rfl | rfl | rfl | rfl | rfl | rfl | rfl
      · simp only at hE h ⊢; exact getk' h (by decide)
      · simp only at hE h ⊢; exact (h.below hE).slot (getk' rfl (by decide))
      · simp only at hE h ⊢; exact getk' h (by decide)
      · simp only at hE h ⊢; exact getk' h (by decide)
      · exact absurd rfl hij
      · exact absurd rfl (hdep _ rfl ⟨4, .data⟩ (by simp) rfl)
      · simp only at hE h ⊢; obtain ⟨A1, c1, P1, d1, e, h⟩ := h; exact ⟨A1, c1, P1, d1, getk' e (by decide), getk' h (by decide)⟩
      · simp only at hE h ⊢; exact getk' h (by decide)
      · simp only at hE h ⊢; obtain ⟨q1, cs1, e, h1, h2, h⟩ := h; exact ⟨q1, cs1, getk' e (by decide), h1, h2, h.below hE h.lt⟩
      · simp only at hE h ⊢; obtain ⟨q1, A1, c1, P1, d1, e, e5, h1, h⟩ := h; exact ⟨q1, A1, c1, P1, d1, getk' e (by decide), getk' e5 (by decide), h1, h.below hE h.lt⟩
    · rcases hi with rfl | rfl | rfl | rfl | rfl | rfl | rfl | rfl | rfl | rfl
      · simp only at hE h ⊢; exact getk' h (by decide)
      · simp only at hE h ⊢; exact (h.below hE).slot (getk' rfl (by decide))
      · simp only at hE h ⊢; exact getk' h (by decide)
      · simp only at hE h ⊢; exact getk' h (by decide)
      · simp only at hE h ⊢; exact (h.below hE).slot (getk' rfl (by decide))
      · exact absurd rfl hij
      · exact absurd rfl (hdep _ rfl ⟨5, .data⟩ (by simp) rfl)
      · exact absurd rfl (hdep _ rfl ⟨5, .data⟩ (by simp) rfl)
      · simp only at hE h ⊢; obtain ⟨q1, cs1, e, h1, h2, h⟩ := h; exact ⟨q1, cs1, getk' e (by decide), h1, h2, h.below hE h.lt⟩
      · simp only at hE h ⊢; obtain ⟨q1, A1, c1, P1, d1, e, e5, h1, h⟩ := h; exact ⟨q1, A1, c1, P1, d1, getk' e (by decide), getk' e5 (by decide), h1, h.below hE h.lt⟩
    · rcases hi with rfl | rfl | rfl | rfl | rfl | rfl | rfl | rfl | rfl | rfl
      · simp only at hE h ⊢; exact getk' h (by decide)
      · simp only at hE h ⊢; exact (h.below hE).slot (getk' rfl (by decide))
      · simp only at hE h ⊢; exact getk' h (by decide)
      · simp only at hE h ⊢; exact getk' h (by decide)
      · simp only at hE h ⊢; exact (h.below hE).slot (getk' rfl (by decide))
      · simp only at hE h ⊢; exact (h.below hE).slot (getk' rfl (by decide))
      · exact absurd rfl hij
      · simp only at hE h ⊢; exact getk' h (by decide)
      · simp only at hE h ⊢; obtain ⟨q1, cs1, e, h1, h2, h⟩ := h; exact ⟨q1, cs1, getk' e (by decide), h1, h2, h.below hE h.lt⟩
      · exact absurd rfl (hdep _ rfl ⟨6, .data⟩ (by simp) rfl)
    · rcases hi with rfl | rfl | rfl | rfl | rfl | rfl | rfl | rfl | rfl | rfl
      · simp only at hE h ⊢; exact getk' h (by decide)
      · simp only at hE h ⊢; exact (h.below hE).slot (getk' rfl (by decide))
      · simp only at hE h ⊢; exact getk' h (by decide)
      · simp only at hE h ⊢; exact getk' h (by decide)
      · simp only at hE h ⊢; exact (h.below hE).slot (getk' rfl (by decide))
      · simp only at hE h ⊢; exact (h.below hE).slot (getk' rfl (by decide))
      · simp only at hE h ⊢; obtain ⟨A1, c1, P1, d1, e, h⟩ := h; exact ⟨A1, c1, P1, d1, getk' e (by decide), getk' h (by decide)⟩
      · exact absurd rfl hij
      · simp only at hE h ⊢; obtain ⟨q1, cs1, e, h1, h2, h⟩ := h; exact ⟨q1, cs1, getk' e (by decide), h1, h2, h.below hE h.lt⟩
      · simp only at hE h ⊢; obtain ⟨q1, A1, c1, P1, d1, e, e5, h1, h⟩ := h; exact ⟨q1, A1, c1, P1, d1, getk' e (by decide), getk' e5 (by decide), h1, h.below hE h.lt⟩
    · rcases hi with rfl | rfl | rfl | rfl | rfl | rfl | rfl | rfl | rfl | rfl
      · simp only at hE h ⊢; exact getk' h (by decide)
      · simp only at hE h ⊢; exact (h.below hE).slot (getk' rfl (by decide))
      · simp only at hE h ⊢; exact getk' h (by decide)
      · simp only at hE h ⊢; exact getk' h (by decide)
      · simp only at hE h ⊢; exact (h.below hE).slot (getk' rfl (by decide))
      · simp only at hE h ⊢; exact (h.below hE).slot (getk' rfl (by decide))
      · simp only at hE h ⊢; obtain ⟨A1, c1, P1, d1, e, h⟩ := h; exact ⟨A1, c1, P1, d1, getk' e (by decide), getk' h (by decide)⟩
      · simp only at hE h ⊢; exact getk' h (by decide)
      · exact absurd rfl hij
      · exact absurd rfl (hdep _ rfl ⟨8, .data⟩ (by simp) rfl)
    · rcases hi with rfl | rfl | rfl | rfl | rfl | rfl | rfl | rfl | rfl | rfl
      · simp only at hE h ⊢; exact getk' h (by decide)
      · simp only at hE h ⊢; exact (h.turn hE).slot (getk' rfl (by decide))
      · simp only at hE h ⊢; exact getk' h (by decide)
      · simp only at hE h ⊢; exact getk' h (by decide)
      · simp only at hE h ⊢; exact (h.turn hE).slot (getk' rfl (by decide))
      · simp only at hE h ⊢; exact (h.turn hE).slot (getk' rfl (by decide))
      · simp only at hE h ⊢; obtain ⟨A1, c1, P1, d1, e, h⟩ := h; exact ⟨A1, c1, P1, d1, getk' e (by decide), getk' h (by decide)⟩
      · simp only at hE h ⊢; exact getk' h (by decide)
      · simp only at hE h ⊢; obtain ⟨q1, cs1, e, h1, h2, h⟩ := h; obtain ⟨cs2, h3, h4⟩ := hE.box h; exact ⟨q1, cs2, getk' e (by decide), h1, h3.trans h2, h4⟩
      · exact absurd rfl hij
  · intro j7 o hj ho a' w' hC hsame hdep
    simp only [List.mem_cons, List.not_mem_nil, or_false] at hj
    rcases hj with rfl | rfl | rfl | rfl | rfl | rfl | rfl | rfl | rfl | rfl
    all_goals obtain rfl := Option.some.inj ho
    · have hs : a'.tmps.getD 2 undef = .pointer (some ⟨w.heap.size, 0, none⟩) := hsame 2 (by rfl)
      have zz := (XA1.out.below hC XA1.out.lt).cell
      refine wp_val (w2 := w') (.agg #[.slice A ln.length c, .slice P lp.length d]) (fun K hK => ?_) ⟨_, rfl, hC, Below.refl _ _, fun b hb hb2 => hb 22 rfl⟩
      clear hsame hdep
      unfold Oper.wp
      simp [execOp, Act.eval, go_sem, hs, zz]
      exact hK
    · have e1 : a'.tmps.getD 22 undef = .agg #[.slice A ln.length c, .slice P lp.length d] := hdep ⟨0, .data⟩ (by simp) rfl
      have hrn : NodesRd w' w'.heap.size A ln.length c ln := (HL.out.below (B1.out.trans (hC.mono B1.out.size)) (Nat.le_refl _)).more (Nat.le_trans B1.out.size hC.size)
      have hrp : RdL msgC 5 w' w'.heap.size P lp.length d lp := (HP.out.below (B1.out.trans (hC.mono B1.out.size)) (Nat.le_refl _)).more (Nat.le_trans B1.out.size hC.size)
      refine wp_call (fun u wq => NetVv w1.heap.size ln lp u wq ∧ Below w'.heap.size w' wq) (fun K hK => ?_) ?_
      · clear hsame hdep
        unfold Oper.wp
        simp [Act.eval, e1, go_sem]
        refine (toNet2_any A c P d ln lp _ hrn hrp HNN.out.1 HNN.out.2.1 HNN.out.2.2).mono ?_
        intro e w3' h
        obtain ⟨v3, rfl⟩ : ∃ v3, e = .returned v3 := by obtain ⟨_, _, _, _, _, e, _⟩ := h; exact ⟨_, e⟩
        obtain ⟨⟨A4, c4, P4, d4, h1, h2⟩, h3⟩ := NetOut2.ap h
        exact hK _ _ ⟨⟨A4, c4, P4, d4, _, _, h1, hC.size, h2⟩, h3⟩
      · rintro u w3' ⟨hnf, hb3⟩
        exact ⟨_, rfl, hC.trans (hb3.mono hC.size), hb3, fun b hb _ => hnf.slot (hb 23 rfl)⟩
    · have hs : a'.tmps.getD 3 undef = .pointer (some ⟨(w.heap.size + 1), 0, none⟩) := hsame 3 (by rfl)
      have zz := (XY1.out.below hC XY1.out.lt).cell
      refine wp_val (w2 := w') (.agg #[.int .i64 ak, .int .i64 aa, .int .i64 ab, .int .i64 m.k, .int .i64 m.r, .int .i64 m.v, .int .i64 m.p, .int .i64 m.f]) (fun K hK => ?_) ⟨_, rfl, hC, Below.refl _ _, fun b hb hb2 => hb 24 rfl⟩
      clear hsame hdep
      unfold Oper.wp
      simp [execOp, Act.eval, go_sem, hs, zz]
      exact hK
    · have e1 : a'.tmps.getD 24 undef = .agg #[.int .i64 ak, .int .i64 aa, .int .i64 ab, .int .i64 m.k, .int .i64 m.r, .int .i64 m.v, .int .i64 m.p, .int .i64 m.f] := hdep ⟨2, .data⟩ (by simp) rfl
      refine wp_call (fun u wq => u = .agg #[.int .i64 ak, .int .i64 aa, .int .i64 ab, .int .i64 m.k, .int .i64 m.r, .int .i64 m.v, .int .i64 m.p, .int .i64 m.f] ∧ Below w'.heap.size w' wq) (fun K hK => ?_) ?_
      · clear hsame hdep
        unfold Oper.wp
        simp [Act.eval, e1, go_sem]
        refine (toNetAct_any ak aa ab m.k m.r m.v m.p m.f _).mono ?_
        rintro e w3' ⟨rfl, hb3⟩
        exact hK _ _ ⟨rfl, hb3⟩
      · rintro u w3' ⟨rfl, hb3⟩
        exact ⟨_, rfl, hC.trans (hb3.mono hC.size), hb3, fun b hb _ => hb 25 rfl⟩
    · obtain ⟨A4, c4, P4, d4, lo4, hi4, e1, hl4, hn4⟩ := hdep ⟨1, .data⟩ (by simp) rfl
      have hrn := hn4.rdn
      have hrp := hn4.rdp
      have e2 : a'.tmps.getD 25 undef = .agg #[.int .i64 ak, .int .i64 aa, .int .i64 ab, .int .i64 m.k, .int .i64 m.r, .int .i64 m.v, .int .i64 m.p, .int .i64 m.f] := hdep ⟨3, .data⟩ (by simp) rfl
      refine wp_call (fun u wq => NetF r w1.heap.size u wq ∧ Below w'.heap.size w' wq) (fun K hK => ?_) ?_
      · clear hsame hdep
        unfold Oper.wp
        simp [Act.eval, e1, e2, go_sem]
        refine (sNetDo_any A4 ln.length c4 P4 lp.length d4 ln lp ak aa ab m _ hrn hrp).mono ?_
        intro e w3' h
        rw [HRR.out] at h
        obtain ⟨v3, rfl⟩ : ∃ v3, e = .returned v3 := by obtain ⟨_, _, _, _, _, _, e, _⟩ := h; exact ⟨_, e⟩
        obtain ⟨⟨A5, c5, P5, d5, lo5, hi5, h1, h2, h3⟩, h4⟩ := NetSDid.f h
        exact hK _ _ ⟨⟨A5, c5, P5, d5, lo5, hi5, h1, Nat.le_trans hC.size h2, h3⟩, h4⟩
      · rintro u w3' ⟨hnf, hb3⟩
        exact ⟨_, rfl, hC.trans (hb3.mono hC.size), hb3, fun b hb _ => hnf.slot (hb 26 rfl)⟩
    · obtain ⟨A7, c7, P7, d7, lo7, hi7, e1, hlo7, hs7⟩ := hdep ⟨4, .data⟩ (by simp) rfl
      refine wp_val (w2 := w') (.tuple #[.agg #[.slice A7 r.1.length c7, .slice P7 r.2.1.length d7], .bool r.2.2]) (fun K hK => ?_) ⟨_, rfl, hC, Below.refl _ _, fun b hb hb2 => ⟨A7, c7, P7, d7, lo7, hi7, hb 21 rfl, hlo7, hs7⟩⟩
      clear hsame hdep
      unfold Oper.wp
      simp [execOp, Act.eval, go_sem, e1]
      exact hK
    · obtain ⟨A7, c7, P7, d7, lo7, hi7, e1, hlo7, hs7⟩ := hdep ⟨5, .data⟩ (by simp) rfl
      refine wp_val (w2 := w') (.agg #[.slice A7 r.1.length c7, .slice P7 r.2.1.length d7]) (fun K hK => ?_) ⟨_, rfl, hC, Below.refl _ _, fun b hb hb2 => ⟨A7, c7, P7, d7, (hb2 21 (by intro d h; cases h; decide)).trans e1, hb 27 rfl⟩⟩
      clear hsame hdep
      unfold Oper.wp
      simp [execOp, Act.eval, go_sem, e1]
      exact hK
    · obtain ⟨A7, c7, P7, d7, lo7, hi7, e1, hlo7, hs7⟩ := hdep ⟨5, .data⟩ (by simp) rfl
      refine wp_val (w2 := w') (.bool r.2.2) (fun K hK => ?_) ⟨_, rfl, hC, Below.refl _ _, fun b hb hb2 => hb 28 rfl⟩
      clear hsame hdep
      unfold Oper.wp
      simp [execOp, Act.eval, go_sem, e1]
      exact hK
    · have hnew := heap_alloc_new w' (.cells #[.slice none 0 0, .slice none 0 0] 27)
      refine wp_val (w2 := w'.alloc (.cells #[.slice none 0 0, .slice none 0 0] 27)) (.pointer (some ⟨w'.heap.size, 0, none⟩)) (fun K hK => ?_) ⟨_, rfl, hC.alloc hC.size _, (Below.refl _ _).alloc (Nat.le_refl _) _, fun b hb _ => ⟨w'.heap.size, _, hb 6 rfl, hC.size, rfl, show Blk _ _ _ _ from hnew⟩⟩
      clear hsame hdep hnew
      unfold Oper.wp
      simp [execOp, go_sem]
      exact hK
    · obtain ⟨q0, cs0, e1, hq0, hsz, hblk⟩ := hdep ⟨8, .data⟩ (by simp) rfl
      obtain ⟨A7, c7, P7, d7, e3, e2⟩ := hdep ⟨6, .data⟩ (by simp) rfl
      clear e3
      obtain ⟨u0, u1, rfl⟩ := two_cells hsz
      have zz := hblk.cell
      have ff := hblk.frozen
      obtain ⟨w9, hw9⟩ : ∃ z, z = ((w'.setCell ⟨q0, 0, none⟩ (.slice A7 r.1.length c7)).setCell ⟨q0, 1, none⟩ (.slice P7 r.2.1.length d7)) := ⟨_, rfl⟩
      have hchg : Chg q0 (q0 + 1) w' w9 := by rw [hw9]; (repeat (first | with_reducible refine Chg.setCell ?_ (by first | exact Nat.le_refl _ | (simp; done) | (simp; omega)) (by first | (simp; done) | (simp; omega)) _ | with_reducible refine Chg.alloc ?_ _ | with_reducible refine Chg.drew ?_)); (with_reducible exact Chg.refl _ _ _)
      have hblk2 : Blk w9 q0 27 #[.slice A7 r.1.length c7, .slice P7 r.2.1.length d7] := by
        rw [hw9]
        have hb := (hblk.set_ 0 (.slice A7 r.1.length c7)).set_ 1 (.slice P7 r.2.1.length d7)
        simp only [List.setIfInBounds_toArray, List.set_cons_zero, List.set_cons_succ] at hb
        exact hb
      have hturn := BoxTurn.of_blk hblk hblk2 rfl hchg
      have hcls : Below w1.heap.size w1 w9 := hC.trans (hchg.below hq0 hC.size)
      refine wp_val (w2 := w9) undef (fun K hK => ?_) ⟨_, rfl, hcls, hturn, fun b _ hb => ⟨q0, A7, c7, P7, d7, (hb 6 (by intro d h; cases h)).trans e1, (hb 27 (by intro d h; cases h)).trans e2, hq0, hblk2⟩⟩
      rw [hw9] at hK
      clear hsame hdep hchg hblk2 hturn hcls hw9 hblk
      unfold Oper.wp
      simp [execOp, Act.eval, e1, e2, go_sem, zz, ff]
      exact hK
  intro a' w2 hb ha hP
  obtain ⟨qp, Ap, cp, Pp, dp, t1, f1, hqp, hblk⟩ := hP 9 (by simp)
  obtain ⟨A8, c8, P8, d8, f3, f2⟩ := hP 6 (by simp)
  obtain ⟨A9, c9, P9, d9, lop, hip, f4, hlop, hs9⟩ := hP 5 (by simp)
  have t4 : a'.tmps.getD 28 undef = .bool r.2.2 := hP 7 (by simp)
  clear hP
  have ex := f1.symm.trans f2
  simp only [Value.agg.injEq, Array.mk.injEq, List.cons.injEq, Value.slice.injEq, true_and, and_true] at ex
  obtain ⟨⟨rfl, rfl⟩, rfl, rfl⟩ := ex
  have ey := f3.symm.trans f4
  simp only [Value.tuple.injEq, Value.agg.injEq, Array.mk.injEq, List.cons.injEq, Value.slice.injEq, true_and, and_true] at ey
  obtain ⟨⟨rfl, rfl⟩, rfl, rfl⟩ := ey
  clear f1 f2 f3 f4
  simp only [coreOps, List.filterMap_cons, List.filterMap_nil, List.getElem?_cons_zero, List.getElem?_cons_succ, fillA, slotOf, Act.put, t1, t4] at ha
  generalize a'.tmps.getD 22 undef = u22 at ha
  generalize a'.tmps.getD 23 undef = u23 at ha
  generalize a'.tmps.getD 24 undef = u24 at ha
  generalize a'.tmps.getD 25 undef = u25 at ha
  generalize a'.tmps.getD 26 undef = u26 at ha
  generalize a'.tmps.getD 21 undef = u21 at ha
  generalize a'.tmps.getD 27 undef = u27 at ha
  subst ha
  clear t4 t1
  have HK := Lib.hid hblk
  have HF := Lib.hid hs9
  clear hblk hs9
  show wpAny _ _ _ _ 1 _ _ _
  refine wpAny_ready (rs := [10]) (by kernel_rfl) (by simp) ?_
  refine AllReady.cons rfl (fun K hK => ?_) AllReady.nil
  go_simp
  refine hK _ _ ?_
  clear hK K
  refine wpAny_done (by kernel_rfl) ?_ _
  have hs2 := hb.size
  have B2 := Lib.hid (B1.out.trans (hb.mono B1.out.size))
  have XA2 := Lib.hid (XA1.out.below hb XA1.out.lt)
  have XY2 := Lib.hid (XY1.out.below hb XY1.out.lt)
  clear hb B1 XA1 XY1
  have XP2 := HK
  have NP2 := HF
  clear HK HF
  have hhp := NP2.out.hh
  have hlp := XP2.out.lt
  have ceA := XA2.out.cell
  have lbA := XA2.out.lt
  go_wp2_with fail
  refine (toNet2_any A c P d ln lp _ ((HL.out.below B2.out (Nat.le_refl _)).more B2.out.size) ((HP.out.below B2.out (Nat.le_refl _)).more B2.out.size) HNN.out.1 HNN.out.2.1 HNN.out.2.2).mono ?_
  intro e w3 h
  obtain ⟨v3, rfl⟩ : ∃ v3, e = .returned v3 := by obtain ⟨_, _, _, _, _, e, _⟩ := h; exact ⟨_, e⟩
  obtain ⟨⟨Ax, cx, Px, dx, rfl, hn⟩, hb⟩ := NetOut2.ap h
  clear ceA lbA h
  have hs3 := hb.size
  have B3 := Lib.hid (B2.out.trans (hb.mono B2.out.size))
  have XA3 := Lib.hid (XA2.out.below hb XA2.out.lt)
  have XY3 := Lib.hid (XY2.out.below hb XY2.out.lt)
  have XP3 := Lib.hid (XP2.out.below hb XP2.out.lt)
  have NP3 := Lib.hid (NP2.out.below hb)
  clear hb B2 XA2 XY2 XP2 NP2
  have NX3 := Lib.hid hn
  clear hn
  go_upto_region 7 with fail
  obtain ⟨w4, hw4⟩ : ∃ q, q = w3.alloc (.cells #[.slice Ax ln.length cx, .slice Px lp.length dx] 27) := ⟨_, rfl⟩
  rw [← hw4]
  have hb : Below w3.heap.size w3 w4 := by rw [hw4]; exact (Below.refl _ _).alloc (Nat.le_refl _) _
  have hxx : Hid (Blk w4 w3.heap.size 27 #[.slice Ax ln.length cx, .slice Px lp.length dx]) := Lib.hid (by rw [hw4]; exact heap_alloc_new w3 _)
  clear hw4
  have hs4 := hb.size
  have B4 := Lib.hid (B3.out.trans (hb.mono B3.out.size))
  have XA4 := Lib.hid (XA3.out.below hb XA3.out.lt)
  have XY4 := Lib.hid (XY3.out.below hb XY3.out.lt)
  have XP4 := Lib.hid (XP3.out.below hb XP3.out.lt)
  have NP4 := Lib.hid (NP3.out.below hb)
  have NX4 := Lib.hid (NX3.out.below hb)
  clear hb B3 XA3 XY3 XP3 NP3 NX3
  have XX4 := hxx
  clear hxx
  have hlx := XX4.out.lt
  go_upto_region 7 with fail
  refine wp_region_core [0, 1, 2, 3, 4, 5, 6, 7, 8] (fun wx => Below w4.heap.size w4 wx) (fun j wa wb => match j with | 8 => BoxTurn 27 wa wb | _ => Below wa.heap.size wa wb) (fun ii b wx => match ii with
    | 0 => b.tmps.getD 32 undef = .agg #[.slice Ax ln.length cx, .slice Px lp.length dx]
    | 1 => b.tmps.getD 33 undef = .agg #[.int .i64 ak, .int .i64 aa, .int .i64 ab, .int .i64 m.k, .int .i64 m.r, .int .i64 m.v, .int .i64 m.p, .int .i64 m.f]
    | 2 => b.tmps.getD 34 undef = .agg #[.int .i64 ak, .int .i64 aa, .int .i64 ab, .int .i64 m.k, .int .i64 m.r, .int .i64 m.v, .int .i64 m.p, .int .i64 m.f]
    | 3 => NetG r w4.heap.size (b.tmps.getD 35 undef) wx
    | 4 => NetG r w4.heap.size (b.tmps.getD 31 undef) wx
    | 5 => ∃ (A1 : Option Addr) (c1 : Nat) (P1 : Option Addr) (d1 : Nat), b.tmps.getD 31 undef = .tuple #[.agg #[.slice A1 r.1.length c1, .slice P1 r.2.1.length d1], .bool r.2.2] ∧ b.tmps.getD 36 undef = .agg #[.slice A1 r.1.length c1, .slice P1 r.2.1.length d1]
    | 6 => b.tmps.getD 37 undef = .bool r.2.2
    | 7 => ∃ (q : Nat) (cs : Array Value), b.tmps.getD 9 undef = .pointer (some ⟨q, 0, none⟩) ∧ w4.heap.size ≤ q ∧ cs.size = 2 ∧ Blk wx q 27 cs
    | 8 => ∃ (q : Nat) (A1 : Option Addr) (c1 : Nat) (P1 : Option Addr) (d1 : Nat), b.tmps.getD 9 undef = .pointer (some ⟨q, 0, none⟩) ∧ b.tmps.getD 36 undef = .agg #[.slice A1 r.1.length c1, .slice P1 r.2.1.length d1] ∧ w4.heap.size ≤ q ∧ Blk wx q 27 #[.slice A1 r.1.length c1, .slice P1 r.2.1.length d1]
    | _ => True) (by kernel_rfl) (by kernel_rfl) ((Below.refl _ _).drew) ?_ ?_ ?_
  · intro b wa wb i7 j7 oj v hi hj hij hoj hdep hE h
    simp only [List.mem_cons, List.not_mem_nil, or_false] at hi hj
    rcases hj with rfl | rfl | rfl | rfl | rfl | rfl | rfl | rfl | rfl
    all_goals obtain rfl := Option.some.inj hoj
    · rcases hi with rfl | rfl | rfl | rfl | rfl | rfl | rfl | rfl | rfl
      · exact absurd rfl hij
      · simp only at hE h ⊢; exact getk' h (by decide)
      · simp only at hE h ⊢; exact getk' h (by decide)
      · exact absurd rfl (hdep _ rfl ⟨0, .data⟩ (by simp) rfl)
      · simp only at hE h ⊢; exact (h.below hE).slot (getk' rfl (by decide))
      · simp only at hE h ⊢; obtain ⟨A1, c1, P1, d1, e, h⟩ := h; exact ⟨A1, c1, P1, d1, getk' e (by decide), getk' h (by decide)⟩
      · simp only at hE h ⊢; exact getk' h (by decide)
      · simp only at hE h ⊢; obtain ⟨q1, cs1, e, h1, h2, h⟩ := h; exact ⟨q1, cs1, getk' e (by decide), h1, h2, h.below hE h.lt⟩
      · simp only at hE h ⊢; obtain ⟨q1, A1, c1, P1, d1, e, e5, h1, h⟩ := h; exact ⟨q1, A1, c1, P1, d1, getk' e (by decide), getk' e5 (by decide), h1, h.below hE h.lt⟩
    · rcases hi with rfl | rfl | rfl | rfl | rfl | rfl | rfl | rfl | rfl
      · simp only at hE h ⊢; exact getk' h (by decide)
      · exact absurd rfl hij
      · exact absurd rfl (hdep _ rfl ⟨1, .data⟩ (by simp) rfl)
      · simp only at hE h ⊢; exact (h.below hE).slot (getk' rfl (by decide))
      · simp only at hE h ⊢; exact (h.below hE).slot (getk' rfl (by decide))
      · simp only at hE h ⊢; obtain ⟨A1, c1, P1, d1, e, h⟩ := h; exact ⟨A1, c1, P1, d1, getk' e (by decide), getk' h (by decide)⟩
      · simp only at hE h ⊢; exact getk' h (by decide)
      · simp only at hE h ⊢; obtain ⟨q1, cs1, e, h1, h2, h⟩ := h; exact ⟨q1, cs1, getk' e (by decide), h1, h2, h.below hE h.lt⟩
      · simp only at hE h ⊢; obtain ⟨q1, A1, c1, P1, d1, e, e5, h1, h⟩ := h; exact ⟨q1, A1, c1, P1, d1, getk' e (by decide), getk' e5 (by decide), h1, h.below hE h.lt⟩
    · rcases hi with rfl | rfl | rfl | rfl | rfl | rfl | rfl | rfl | rfl
      · simp only at hE h ⊢; exact getk' h (by decide)
      · simp only at hE h ⊢; exact getk' h (by decide)
      · exact absurd rfl hij
      · exact absurd rfl (hdep _ rfl ⟨2, .data⟩ (by simp) rfl)
      · simp only at hE h ⊢; exact (h.below hE).slot (getk' rfl (by decide))
      · simp only at hE h ⊢; obtain ⟨A1, c1, P1, d1, e, h⟩ := h; exact ⟨A1, c1, P1, d1, getk' e (by decide), getk' h (by decide)⟩
      · simp only at hE h ⊢; exact getk' h (by decide)
      · simp only at hE h ⊢; obtain ⟨q1, cs1, e, h1, h2, h⟩ := h; exact ⟨q1, cs1, getk' e (by decide), h1, h2, h.below hE h.lt⟩
      · simp only at hE h ⊢; obtain ⟨q1, A1, c1, P1, d1, e, e5, h1, h⟩ := h; exact ⟨q1, A1, c1, P1, d1, getk' e (by decide), getk' e5 (by decide), h1, h.below hE h.lt⟩
    · rcases hi with rfl | rfl | rfl | rfl | rfl | rfl | rfl | rfl | rfl
      · simp only at hE h ⊢; exact getk' h (by decide)
      · simp only at hE h ⊢; exact getk' h (by decide)
      · simp only at hE h ⊢; exact getk' h (by decide)
      · exact absurd rfl hij
      · exact absurd rfl (hdep _ rfl ⟨3, .data⟩ (by simp) rfl)
      · simp only at hE h ⊢; obtain ⟨A1, c1, P1, d1, e, h⟩ := h; exact ⟨A1, c1, P1, d1, getk' e (by decide), getk' h (by decide)⟩
      · simp only at hE h ⊢; exact getk' h (by decide)
      · simp only at hE h ⊢; obtain ⟨q1, cs1, e, h1, h2, h⟩ := h; exact ⟨q1, cs1, getk' e (by decide), h1, h2, h.below hE h.lt⟩
      · simp only at hE h ⊢; obtain ⟨q1, A1, c1, P1, d1, e, e5, h1, h⟩ := h; exact ⟨q1, A1, c1, P1, d1, getk' e (by decide), getk' e5 (by decide), h1, h.below hE h.lt⟩
    · rcases hi with rfl | rfl | rfl | rfl | rfl | rfl | rfl | rfl | rfl
      · simp only at hE h ⊢; exact getk' h (by decide)
      · simp only at hE h ⊢; exact getk' h (by decide)
      · simp only at hE h ⊢; exact getk' h (by decide)
      · simp only at hE h ⊢; exact (h.below hE).slot (getk' rfl (by decide))
      · exact absurd rfl hij
      · exact absurd rfl (hdep _ rfl ⟨4, .data⟩ (by simp) rfl)
      · exact absurd rfl (hdep _ rfl ⟨4, .data⟩ (by simp) rfl)
      · simp only at hE h ⊢; obtain ⟨q1, cs1, e, h1, h2, h⟩ := h; exact ⟨q1, cs1, getk' e (by decide), h1, h2, h.below hE h.lt⟩
      · simp only at hE h ⊢; obtain ⟨q1, A1, c1, P1, d1, e, e5, h1, h⟩ := h; exact ⟨q1, A1, c1, P1, d1, getk' e (by decide), getk' e5 (by decide), h1, h.below hE h.lt⟩
    · rcases hi with rfl | rfl | rfl | rfl | rfl | rfl | rfl | rfl | rfl
      · simp only at hE h ⊢; exact getk' h (by decide)
      · simp only at hE h ⊢; exact getk' h (by decide)
      · simp only at hE h ⊢; exact getk' h (by decide)
      · simp only at hE h ⊢; exact (h.below hE).slot (getk' rfl (by decide))
      · simp only at hE h ⊢; exact (h.below hE).slot (getk' rfl (by decide))
      · exact absurd rfl hij
      · simp only at hE h ⊢; exact getk' h (by decide)
      · simp only at hE h ⊢; obtain ⟨q1, cs1, e, h1, h2, h⟩ := h; exact ⟨q1, cs1, getk' e (by decide), h1, h2, h.below hE h.lt⟩
      · exact absurd rfl (hdep _ rfl ⟨5, .data⟩ (by simp) rfl)
    · rcases hi with rfl | rfl | rfl | rfl | rfl | rfl | rfl | rfl | rfl
      · simp only at hE h ⊢; exact getk' h (by decide)
      · simp only at hE h ⊢; exact getk' h (by decide)
      · simp only at hE h ⊢; exact getk' h (by decide)
      · simp only at hE h ⊢; exact (h.below hE).slot (getk' rfl (by decide))
      · simp only at hE h ⊢; exact (h.below hE).slot (getk' rfl (by decide))
      · simp only at hE h ⊢; obtain ⟨A1, c1, P1, d1, e, h⟩ := h; exact ⟨A1, c1, P1, d1, getk' e (by decide), getk' h (by decide)⟩
      · exact absurd rfl hij
      · simp only at hE h ⊢; obtain ⟨q1, cs1, e, h1, h2, h⟩ := h; exact ⟨q1, cs1, getk' e (by decide), h1, h2, h.below hE h.lt⟩
      · simp only at hE h ⊢; obtain ⟨q1, A1, c1, P1, d1, e, e5, h1, h⟩ := h; exact ⟨q1, A1, c1, P1, d1, getk' e (by decide), getk' e5 (by decide), h1, h.below hE h.lt⟩
    · rcases hi with rfl | rfl | rfl | rfl | rfl | rfl | rfl | rfl | rfl
      · simp only at hE h ⊢; exact getk' h (by decide)
      · simp only at hE h ⊢; exact getk' h (by decide)
      · simp only at hE h ⊢; exact getk' h (by decide)
      · simp only at hE h ⊢; exact (h.below hE).slot (getk' rfl (by decide))
      · simp only at hE h ⊢; exact (h.below hE).slot (getk' rfl (by decide))
      · simp only at hE h ⊢; obtain ⟨A1, c1, P1, d1, e, h⟩ := h; exact ⟨A1, c1, P1, d1, getk' e (by decide), getk' h (by decide)⟩
      · simp only at hE h ⊢; exact getk' h (by decide)
      · exact absurd rfl hij
      · exact absurd rfl (hdep _ rfl ⟨7, .data⟩ (by simp) rfl)
    · rcases hi with rfl | rfl | rfl | rfl | rfl | rfl | rfl | rfl | rfl
      · simp only at hE h ⊢; exact getk' h (by decide)
      · simp only at hE h ⊢; exact getk' h (by decide)
      · simp only at hE h ⊢; exact getk' h (by decide)
      · simp only at hE h ⊢; exact (h.turn hE).slot (getk' rfl (by decide))
      · simp only at hE h ⊢; exact (h.turn hE).slot (getk' rfl (by decide))
      · simp only at hE h ⊢; obtain ⟨A1, c1, P1, d1, e, h⟩ := h; exact ⟨A1, c1, P1, d1, getk' e (by decide), getk' h (by decide)⟩
      · simp only at hE h ⊢; exact getk' h (by decide)
      · simp only at hE h ⊢; obtain ⟨q1, cs1, e, h1, h2, h⟩ := h; obtain ⟨cs2, h3, h4⟩ := hE.box h; exact ⟨q1, cs2, getk' e (by decide), h1, h3.trans h2, h4⟩
      · exact absurd rfl hij
  · intro j7 o hj ho a' w' hC hsame hdep
    simp only [List.mem_cons, List.not_mem_nil, or_false] at hj
    rcases hj with rfl | rfl | rfl | rfl | rfl | rfl | rfl | rfl | rfl
    all_goals obtain rfl := Option.some.inj ho
    · have hs : a'.tmps.getD 8 undef = .pointer (some ⟨w3.heap.size, 0, none⟩) := hsame 8 (by rfl)
      have zz := (XX4.out.below hC XX4.out.lt).cell
      refine wp_val (w2 := w') (.agg #[.slice Ax ln.length cx, .slice Px lp.length dx]) (fun K hK => ?_) ⟨_, rfl, hC, Below.refl _ _, fun b hb hb2 => hb 32 rfl⟩
      clear hsame hdep
      unfold Oper.wp
      simp [execOp, Act.eval, go_sem, hs, zz]
      exact hK
    · have hs : a'.tmps.getD 3 undef = .pointer (some ⟨(w.heap.size + 1), 0, none⟩) := hsame 3 (by rfl)
      have zz := (XY4.out.below hC XY4.out.lt).cell
      refine wp_val (w2 := w') (.agg #[.int .i64 ak, .int .i64 aa, .int .i64 ab, .int .i64 m.k, .int .i64 m.r, .int .i64 m.v, .int .i64 m.p, .int .i64 m.f]) (fun K hK => ?_) ⟨_, rfl, hC, Below.refl _ _, fun b hb hb2 => hb 33 rfl⟩
      clear hsame hdep
      unfold Oper.wp
      simp [execOp, Act.eval, go_sem, hs, zz]
      exact hK
    · have e1 : a'.tmps.getD 33 undef = .agg #[.int .i64 ak, .int .i64 aa, .int .i64 ab, .int .i64 m.k, .int .i64 m.r, .int .i64 m.v, .int .i64 m.p, .int .i64 m.f] := hdep ⟨1, .data⟩ (by simp) rfl
      refine wp_call (fun u wq => u = .agg #[.int .i64 ak, .int .i64 aa, .int .i64 ab, .int .i64 m.k, .int .i64 m.r, .int .i64 m.v, .int .i64 m.p, .int .i64 m.f] ∧ Below w'.heap.size w' wq) (fun K hK => ?_) ?_
      · clear hsame hdep
        unfold Oper.wp
        simp [Act.eval, e1, go_sem]
        refine (toNetAct_any ak aa ab m.k m.r m.v m.p m.f _).mono ?_
        rintro e w3' ⟨rfl, hb3⟩
        exact hK _ _ ⟨rfl, hb3⟩
      · rintro u w3' ⟨rfl, hb3⟩
        exact ⟨_, rfl, hC.trans (hb3.mono hC.size), hb3, fun b hb _ => hb 34 rfl⟩
    · have e1 : a'.tmps.getD 32 undef = .agg #[.slice Ax ln.length cx, .slice Px lp.length dx] := hdep ⟨0, .data⟩ (by simp) rfl
      have hn4 := NX4.out.below hC
      have hrn := hn4.rdn
      have hrp := hn4.rdp
      have e2 : a'.tmps.getD 34 undef = .agg #[.int .i64 ak, .int .i64 aa, .int .i64 ab, .int .i64 m.k, .int .i64 m.r, .int .i64 m.v, .int .i64 m.p, .int .i64 m.f] := hdep ⟨2, .data⟩ (by simp) rfl
      refine wp_call (fun u wq => NetG r w4.heap.size u wq ∧ Below w'.heap.size w' wq) (fun K hK => ?_) ?_
      · clear hsame hdep
        unfold Oper.wp
        simp [Act.eval, e1, e2, go_sem]
        refine (NetDo_any Ax ln.length cx Px lp.length dx ln lp ak aa ab m _ hrn hrp).mono ?_
        intro e w3' h
        rw [HRR.out] at h
        obtain ⟨v3, rfl⟩ : ∃ v3, e = .returned v3 := by obtain ⟨_, _, _, _, _, _, e, _⟩ := h; exact ⟨_, e⟩
        obtain ⟨⟨A5, c5, P5, d5, lo5, hi5, h1, h2, h3⟩, h4⟩ := NetDid.ap h
        exact hK _ _ ⟨⟨A5, c5, P5, d5, lo5, hi5, h1, Nat.le_trans hC.size h2, h3⟩, h4⟩
      · rintro u w3' ⟨hnf, hb3⟩
        exact ⟨_, rfl, hC.trans (hb3.mono hC.size), hb3, fun b hb _ => hnf.slot (hb 35 rfl)⟩
    · obtain ⟨A7, c7, P7, d7, lo7, hi7, e1, hlo7, hs7⟩ := hdep ⟨3, .data⟩ (by simp) rfl
      refine wp_val (w2 := w') (.tuple #[.agg #[.slice A7 r.1.length c7, .slice P7 r.2.1.length d7], .bool r.2.2]) (fun K hK => ?_) ⟨_, rfl, hC, Below.refl _ _, fun b hb hb2 => ⟨A7, c7, P7, d7, lo7, hi7, hb 31 rfl, hlo7, hs7⟩⟩
      clear hsame hdep
      unfold Oper.wp
      simp [execOp, Act.eval, go_sem, e1]
      exact hK
    · obtain ⟨A7, c7, P7, d7, lo7, hi7, e1, hlo7, hs7⟩ := hdep ⟨4, .data⟩ (by simp) rfl
      refine wp_val (w2 := w') (.agg #[.slice A7 r.1.length c7, .slice P7 r.2.1.length d7]) (fun K hK => ?_) ⟨_, rfl, hC, Below.refl _ _, fun b hb hb2 => ⟨A7, c7, P7, d7, (hb2 31 (by intro d h; cases h; decide)).trans e1, hb 36 rfl⟩⟩
      clear hsame hdep
      unfold Oper.wp
      simp [execOp, Act.eval, go_sem, e1]
      exact hK
    · obtain ⟨A7, c7, P7, d7, lo7, hi7, e1, hlo7, hs7⟩ := hdep ⟨4, .data⟩ (by simp) rfl
      refine wp_val (w2 := w') (.bool r.2.2) (fun K hK => ?_) ⟨_, rfl, hC, Below.refl _ _, fun b hb hb2 => hb 37 rfl⟩
      clear hsame hdep
      unfold Oper.wp
      simp [execOp, Act.eval, go_sem, e1]
      exact hK
    · have hnew := heap_alloc_new w' (.cells #[.slice none 0 0, .slice none 0 0] 27)
      refine wp_val (w2 := w'.alloc (.cells #[.slice none 0 0, .slice none 0 0] 27)) (.pointer (some ⟨w'.heap.size, 0, none⟩)) (fun K hK => ?_) ⟨_, rfl, hC.alloc hC.size _, (Below.refl _ _).alloc (Nat.le_refl _) _, fun b hb _ => ⟨w'.heap.size, _, hb 9 rfl, hC.size, rfl, show Blk _ _ _ _ from hnew⟩⟩
      clear hsame hdep hnew
      unfold Oper.wp
      simp [execOp, go_sem]
      exact hK
    · obtain ⟨q0, cs0, e1, hq0, hsz, hblk⟩ := hdep ⟨7, .data⟩ (by simp) rfl
      obtain ⟨A7, c7, P7, d7, e3, e2⟩ := hdep ⟨5, .data⟩ (by simp) rfl
      clear e3
      obtain ⟨u0, u1, rfl⟩ := two_cells hsz
      have zz := hblk.cell
      have ff := hblk.frozen
      obtain ⟨w9, hw9⟩ : ∃ z, z = ((w'.setCell ⟨q0, 0, none⟩ (.slice A7 r.1.length c7)).setCell ⟨q0, 1, none⟩ (.slice P7 r.2.1.length d7)) := ⟨_, rfl⟩
      have hchg : Chg q0 (q0 + 1) w' w9 := by rw [hw9]; (repeat (first | with_reducible refine Chg.setCell ?_ (by first | exact Nat.le_refl _ | (simp; done) | (simp; omega)) (by first | (simp; done) | (simp; omega)) _ | with_reducible refine Chg.alloc ?_ _ | with_reducible refine Chg.drew ?_)); (with_reducible exact Chg.refl _ _ _)
      have hblk2 : Blk w9 q0 27 #[.slice A7 r.1.length c7, .slice P7 r.2.1.length d7] := by
        rw [hw9]
        have hb := (hblk.set_ 0 (.slice A7 r.1.length c7)).set_ 1 (.slice P7 r.2.1.length d7)
        simp only [List.setIfInBounds_toArray, List.set_cons_zero, List.set_cons_succ] at hb
        exact hb
      have hturn := BoxTurn.of_blk hblk hblk2 rfl hchg
      have hcls : Below w4.heap.size w4 w9 := hC.trans (hchg.below hq0 hC.size)
      refine wp_val (w2 := w9) undef (fun K hK => ?_) ⟨_, rfl, hcls, hturn, fun b _ hb => ⟨q0, A7, c7, P7, d7, (hb 9 (by intro d h; cases h)).trans e1, (hb 36 (by intro d h; cases h)).trans e2, hq0, hblk2⟩⟩
      rw [hw9] at hK
      clear hsame hdep hchg hblk2 hturn hcls hw9 hblk
      unfold Oper.wp
      simp [execOp, Act.eval, e1, e2, go_sem, zz, ff]
      exact hK
  intro a' w5 hb ha hP
  obtain ⟨qg, Ag, cg, Pg, dg, t1, f1, hqg, hblk⟩ := hP 8 (by simp)
  obtain ⟨A8, c8, P8, d8, f3, f2⟩ := hP 5 (by simp)
  obtain ⟨A9, c9, P9, d9, log, hig, f4, hlog, hs9⟩ := hP 4 (by simp)
  have t4 : a'.tmps.getD 37 undef = .bool r.2.2 := hP 6 (by simp)
  clear hP
  have ex := f1.symm.trans f2
  simp only [Value.agg.injEq, Array.mk.injEq, List.cons.injEq, Value.slice.injEq, true_and, and_true] at ex
  obtain ⟨⟨rfl, rfl⟩, rfl, rfl⟩ := ex
  have ey := f3.symm.trans f4
  simp only [Value.tuple.injEq, Value.agg.injEq, Array.mk.injEq, List.cons.injEq, Value.slice.injEq, true_and, and_true] at ey
  obtain ⟨⟨rfl, rfl⟩, rfl, rfl⟩ := ey
  clear f1 f2 f3 f4
  simp only [coreOps, List.filterMap_cons, List.filterMap_nil, List.getElem?_cons_zero, List.getElem?_cons_succ, fillA, slotOf, Act.put, t1, t4] at ha
  generalize a'.tmps.getD 32 undef = u32 at ha
  generalize a'.tmps.getD 33 undef = u33 at ha
  generalize a'.tmps.getD 34 undef = u34 at ha
  generalize a'.tmps.getD 35 undef = u35 at ha
  generalize a'.tmps.getD 31 undef = u31 at ha
  generalize a'.tmps.getD 36 undef = u36 at ha
  subst ha
  clear t4 t1
  have HK := Lib.hid hblk
  have HF := Lib.hid hs9
  clear hblk hs9
  show wpAny _ _ _ _ 1 _ _ _
  refine wpAny_ready (rs := [9]) (by kernel_rfl) (by simp) ?_
  refine AllReady.cons rfl (fun K hK => ?_) AllReady.nil
  go_simp
  refine hK _ _ ?_
  clear hK K
  refine wpAny_done (by kernel_rfl) ?_ _
  have hs5 := hb.size
  have B5 := Lib.hid (B4.out.trans (hb.mono B4.out.size))
  have XA5 := Lib.hid (XA4.out.below hb XA4.out.lt)
  have XY5 := Lib.hid (XY4.out.below hb XY4.out.lt)
  have XP5 := Lib.hid (XP4.out.below hb XP4.out.lt)
  have NP5 := Lib.hid (NP4.out.below hb)
  have NX5 := Lib.hid (NX4.out.below hb)
  have XX5 := Lib.hid (XX4.out.below hb XX4.out.lt)
  clear hb B4 XA4 XY4 XP4 NP4 NX4 XX4
  have XG5 := HK
  have NG5 := HF
  clear HK HF
  have hlg := XG5.out.lt
  have hhg := NG5.out.hh
  have ceXG := XG5.out.cell
  have lbXG := XG5.out.lt
  have ceXP := XP5.out.cell
  have lbXP := XP5.out.lt
  go_wp2_with fail
  refine (eqNet_same Ag r.1.length cg Pg r.2.1.length dg Ap cp Pp dp r.1 r.2.1 _ NG5.out.rdn NG5.out.rdp NP5.out.rdn NP5.out.rdp).mono ?_
  rintro e w6 ⟨rfl, hb⟩
  clear ceXG lbXG ceXP lbXP
  have hs6 := hb.size
  have B6 := Lib.hid (B5.out.trans (hb.mono B5.out.size))
  have XA6 := Lib.hid (XA5.out.below hb XA5.out.lt)
  have XY6 := Lib.hid (XY5.out.below hb XY5.out.lt)
  have XP6 := Lib.hid (XP5.out.below hb XP5.out.lt)
  have NP6 := Lib.hid (NP5.out.below hb)
  have NX6 := Lib.hid (NX5.out.below hb)
  have XX6 := Lib.hid (XX5.out.below hb XX5.out.lt)
  have XG6 := Lib.hid (XG5.out.below hb XG5.out.lt)
  have NG6 := Lib.hid (NG5.out.below hb)
  clear hb B5 XA5 XY5 XP5 NP5 NX5 XX5 XG5 NG5
  go_upto_region 10 with fail
  refine wp_region_core2 [0, 1, 2, 3] (fun wx => Below w6.heap.size w6 wx) (fun j wa wb => Below wa.heap.size wa wb) (fun ii b wx => match ii with
    | 0 => b.tmps.getD 47 undef = .agg #[.slice Ax ln.length cx, .slice Px lp.length dx]
    | 1 => b.tmps.getD 48 undef = .agg #[.slice A ln.length c, .slice P lp.length d]
    | 2 => NetVv w6.heap.size ln lp (b.tmps.getD 49 undef) wx
    | 3 => b.tmps.getD 50 undef = .bool true
    | _ => True) (by kernel_rfl) (by kernel_rfl) ((Below.refl _ _).drew) ?_ ?_ ?_
  · intro b wa wb i7 j7 oj v hi hj hij hoj hdep hE h
    simp only [List.mem_cons, List.not_mem_nil, or_false] at hi hj
    rcases hj with rfl | rfl | rfl | rfl
    all_goals obtain rfl := Option.some.inj hoj
    · rcases hi with rfl | rfl | rfl | rfl
      · exact absurd rfl hij
      · simp only at hE h ⊢; exact getk' h (by decide)
      · simp only at hE h ⊢; exact (h.below hE).slot (getk' rfl (by decide))
      · exact absurd rfl (hdep _ rfl ⟨0, .data⟩ (by simp) rfl)
    · rcases hi with rfl | rfl | rfl | rfl
      · simp only at hE h ⊢; exact getk' h (by decide)
      · exact absurd rfl hij
      · exact absurd rfl (hdep _ rfl ⟨1, .data⟩ (by simp) rfl)
      · simp only at hE h ⊢; exact getk' h (by decide)
    · rcases hi with rfl | rfl | rfl | rfl
      · simp only at hE h ⊢; exact getk' h (by decide)
      · simp only at hE h ⊢; exact getk' h (by decide)
      · exact absurd rfl hij
      · exact absurd rfl (hdep _ rfl ⟨2, .data⟩ (by simp) rfl)
    · rcases hi with rfl | rfl | rfl | rfl
      · simp only at hE h ⊢; exact getk' h (by decide)
      · simp only at hE h ⊢; exact getk' h (by decide)
      · simp only at hE h ⊢; exact (h.below hE).slot (getk' rfl (by decide))
      · exact absurd rfl hij
  · intro j7 o hj ho a' w' hC hsame hdep
    simp only [List.mem_cons, List.not_mem_nil, or_false] at hj
    rcases hj with rfl | rfl | rfl | rfl
    all_goals obtain rfl := Option.some.inj ho
    · have hs : a'.tmps.getD 8 undef = .pointer (some ⟨w3.heap.size, 0, none⟩) := hsame 8 (by rfl)
      have zz := (XX6.out.below hC XX6.out.lt).cell
      refine wp_val (w2 := w') (.agg #[.slice Ax ln.length cx, .slice Px lp.length dx]) (fun K hK => ?_) ⟨_, rfl, hC, Below.refl _ _, fun b hb hb2 => hb 47 rfl⟩
      clear hsame hdep
      unfold Oper.wp
      simp [execOp, Act.eval, go_sem, hs, zz]
      exact hK
    · have hs : a'.tmps.getD 2 undef = .pointer (some ⟨w.heap.size, 0, none⟩) := hsame 2 (by rfl)
      have zz := (XA6.out.below hC XA6.out.lt).cell
      refine wp_val (w2 := w') (.agg #[.slice A ln.length c, .slice P lp.length d]) (fun K hK => ?_) ⟨_, rfl, hC, Below.refl _ _, fun b hb hb2 => hb 48 rfl⟩
      clear hsame hdep
      unfold Oper.wp
      simp [execOp, Act.eval, go_sem, hs, zz]
      exact hK
    · have e1 : a'.tmps.getD 48 undef = .agg #[.slice A ln.length c, .slice P lp.length d] := hdep ⟨1, .data⟩ (by simp) rfl
      have hrn : NodesRd w' w'.heap.size A ln.length c ln := (HL.out.below (B6.out.trans (hC.mono B6.out.size)) (Nat.le_refl _)).more (Nat.le_trans B6.out.size hC.size)
      have hrp : RdL msgC 5 w' w'.heap.size P lp.length d lp := (HP.out.below (B6.out.trans (hC.mono B6.out.size)) (Nat.le_refl _)).more (Nat.le_trans B6.out.size hC.size)
      refine wp_call (fun u wq => NetVv w6.heap.size ln lp u wq ∧ Below w'.heap.size w' wq) (fun K hK => ?_) ?_
      · clear hsame hdep
        unfold Oper.wp
        simp [Act.eval, e1, go_sem]
        refine (toNet2_any A c P d ln lp _ hrn hrp HNN.out.1 HNN.out.2.1 HNN.out.2.2).mono ?_
        intro e w3' h
        obtain ⟨v3, rfl⟩ : ∃ v3, e = .returned v3 := by obtain ⟨_, _, _, _, _, e, _⟩ := h; exact ⟨_, e⟩
        obtain ⟨⟨A4, c4, P4, d4, h1, h2⟩, h3⟩ := NetOut2.ap h
        exact hK _ _ ⟨⟨A4, c4, P4, d4, _, _, h1, hC.size, h2⟩, h3⟩
      · rintro u w3' ⟨hnf, hb3⟩
        exact ⟨_, rfl, hC.trans (hb3.mono hC.size), hb3, fun b hb _ => hnf.slot (hb 49 rfl)⟩
    · have e1 : a'.tmps.getD 47 undef = .agg #[.slice Ax ln.length cx, .slice Px lp.length dx] := hdep ⟨0, .data⟩ (by simp) rfl
      obtain ⟨A4, c4, P4, d4, lo4, hi4, e2, hl4, hn4⟩ := hdep ⟨2, .data⟩ (by simp) rfl
      have hn5 := NX6.out.below hC
      refine wp_call (fun u wq => u = .bool true ∧ Below w'.heap.size w' wq) (fun K hK => ?_) ?_
      · clear hsame hdep
        unfold Oper.wp
        simp [Act.eval, e1, e2, go_sem]
        refine (eqNet_same Ax ln.length cx Px lp.length dx A4 c4 P4 d4 ln lp _ hn5.rdn hn5.rdp hn4.rdn hn4.rdp).mono ?_
        rintro e w3' ⟨rfl, hb3⟩
        exact hK _ _ ⟨rfl, hb3⟩
      · rintro u w3' ⟨rfl, hb3⟩
        exact ⟨_, rfl, hC.trans (hb3.mono hC.size), hb3, fun b hb _ => hb 50 rfl⟩
  intro a' w7 hb ha hP
  have t4 : a'.tmps.getD 50 undef = .bool true := hP 3 (by simp)
  clear hP
  simp only [coreOps, List.filterMap_cons, List.filterMap_nil, List.getElem?_cons_zero, List.getElem?_cons_succ, fillA, slotOf, Act.put, t4] at ha
  generalize a'.tmps.getD 47 undef = u47 at ha
  generalize a'.tmps.getD 48 undef = u48 at ha
  generalize a'.tmps.getD 49 undef = u49 at ha
  subst ha
  clear t4
  show wpAny _ _ _ _ 1 _ _ _
  refine wpAny_ready (rs := [4]) (by kernel_rfl) (by simp) ?_
  refine AllReady.cons rfl (fun K hK => ?_) AllReady.nil
  go_simp
  refine hK _ _ ?_
  clear hK K
  refine wpAny_done (by kernel_rfl) ?_ _
  have hs7 := hb.size
  have B7 := Lib.hid (B6.out.trans (hb.mono B6.out.size))
  have XA7 := Lib.hid (XA6.out.below hb XA6.out.lt)
  have XY7 := Lib.hid (XY6.out.below hb XY6.out.lt)
  have XP7 := Lib.hid (XP6.out.below hb XP6.out.lt)
  have NP7 := Lib.hid (NP6.out.below hb)
  have NX7 := Lib.hid (NX6.out.below hb)
  have XX7 := Lib.hid (XX6.out.below hb XX6.out.lt)
  have XG7 := Lib.hid (XG6.out.below hb XG6.out.lt)
  have NG7 := Lib.hid (NG6.out.below hb)
  clear hb B6 XA6 XY6 XP6 NP6 NX6 XX6 XG6 NG6
  have ceXX := XX7.out.cell
  have lbXX := XX7.out.lt
  go_wp2_with fail
  obtain ⟨⟨xa, xb, xp1, xp2, x1, x2, x3, x4, x5, x6, x7⟩, x8, x9⟩ := NX7.out
  refine (markNetX_keep Ax ln.length cx ln Px lp.length dx lp w2.heap.size w3.heap.size xa xb xp1 xp2 1 _ x1 x2 x3 x4 x5 x6 x7 (by omega) (by decide) (by have := HNN.out.1; omega) (by have := HZZ.out; omega) (by have := HNN.out.2.2; omega)).mono ?_
  rintro e w8 ⟨hkp, rfl, hg, _⟩
  clear x1 x2 x3 x4 x5 x6 x7 x8 x9
  clear ceXX lbXX
  clear NX7
  clear XX7
  have hs8 := hg.size
  have B8 := Lib.hid (B7.out.trans (hg.below (B := w.heap.size) (by omega) (by omega)))
  have XA8 := Lib.hid (show Blk _ _ _ _ from (hg.block _ XA7.out.lt (by omega)).trans XA7.out)
  have XY8 := Lib.hid (show Blk _ _ _ _ from (hg.block _ XY7.out.lt (by omega)).trans XY7.out)
  have XP8 := Lib.hid (hkp _ _ XP7.out)
  have NP8 := Lib.hid (NP7.out.chg hg (by omega))
  have XG8 := Lib.hid (hkp _ _ XG7.out)
  have NG8 := Lib.hid (NG7.out.chg hg (by omega))
  clear hg hkp B7 XA7 XY7 XP7 NP7 XG7 NG7
  have hm0 : ¬ ((1 + szND ln + lp.length * 5 : Nat) : Int) < 0 := by omega
  have ceXG := XG8.out.cell
  have lbXG := XG8.out.lt
  have ceXP := XP8.out.cell
  have lbXP := XP8.out.lt
  go_wp2_with fail
  refine (eqNet_same Ag r.1.length cg Pg r.2.1.length dg Ap cp Pp dp r.1 r.2.1 _ NG8.out.rdn NG8.out.rdp NP8.out.rdn NP8.out.rdp).mono ?_
  rintro e w9 ⟨rfl, hb⟩
  clear ceXG lbXG ceXP lbXP
  have hs9 := hb.size
  have B9 := Lib.hid (B8.out.trans (hb.mono B8.out.size))
  have XA9 := Lib.hid (XA8.out.below hb XA8.out.lt)
  have XY9 := Lib.hid (XY8.out.below hb XY8.out.lt)
  have XP9 := Lib.hid (XP8.out.below hb XP8.out.lt)
  have NP9 := Lib.hid (NP8.out.below hb)
  have XG9 := Lib.hid (XG8.out.below hb XG8.out.lt)
  have NG9 := Lib.hid (NG8.out.below hb)
  clear hb B8 XA8 XY8 XP8 NP8 XG8 NG8
  have ceXG := XG9.out.cell
  have lbXG := XG9.out.lt
  go_wp2_with fail
  obtain ⟨⟨ga, gb, gp1, gp2, x1, x2, x3, x4, x5, x6, x7⟩, x8, x9⟩ := NG9.out
  refine (markNetX_keep Ag r.1.length cg r.1 Pg r.2.1.length dg r.2.1 log hig ga gb gp1 gp2 1 _ x1 x2 x3 x4 x5 x6 x7 x9 (by decide) (by omega) (by omega) (by omega)).mono ?_
  rintro e w10 ⟨hkp, rfl, hg, lm, hmn, hmx, hmp⟩
  clear x1 x2 x3 x4 x5 x6 x7 x8 x9
  have MX := Lib.hid hmx
  clear hmx
  clear ceXG lbXG
  clear NG9
  have hs10 := hg.size
  have B10 := Lib.hid (B9.out.trans (hg.below (B := w.heap.size) (by omega) (by omega)))
  have XA10 := Lib.hid (show Blk _ _ _ _ from (hg.block _ XA9.out.lt (by omega)).trans XA9.out)
  have XY10 := Lib.hid (show Blk _ _ _ _ from (hg.block _ XY9.out.lt (by omega)).trans XY9.out)
  have XP10 := Lib.hid (hkp _ _ XP9.out)
  have NP10 := Lib.hid (NP9.out.chg hg (by omega))
  have XG10 := Lib.hid (hkp _ _ XG9.out)
  clear hg hkp B9 XA9 XY9 XP9 NP9 XG9
  have MN10 := Lib.hid hmn
  have MP10 := Lib.hid hmp
  clear hmn hmp
  have hm1 : ¬ ((1 + szND r.1 + r.2.1.length * 5 : Nat) : Int) < 0 := by omega
  have ceXG := XG10.out.cell
  have lbXG := XG10.out.lt
  go_wp2_with fail
  refine (heldNetX_any Ag r.1.length cg r.1 lm Pg r.2.1.length dg 1 _ MN10.out MX.out MP10.out (by decide) (by omega) (by omega) (by omega)).mono ?_
  rintro e w11 ⟨rfl, hb⟩
  clear ceXG lbXG
  have hs11 := hb.size
  have B11 := Lib.hid (B10.out.trans (hb.mono B10.out.size))
  have XA11 := Lib.hid (XA10.out.below hb XA10.out.lt)
  have XY11 := Lib.hid (XY10.out.below hb XY10.out.lt)
  have XP11 := Lib.hid (XP10.out.below hb XP10.out.lt)
  have NP11 := Lib.hid (NP10.out.below hb)
  have XG11 := Lib.hid (XG10.out.below hb XG10.out.lt)
  have MN11 := Lib.hid ((MN10.out.below hb (Nat.le_refl _)).more hs11)
  have MP11 := Lib.hid ((MP10.out.below hb (Nat.le_refl _)).more hs11)
  clear hb B10 XA10 XY10 XP10 NP10 XG10 MN10 MP10
  go_upto_region 24 with fail
  refine wp_region_core [0, 1, 2, 3, 4, 5, 6, 7, 8, 9] (fun wx => Below w11.heap.size w11 wx) (fun j wa wb => match j with | 9 => BoxTurn 27 wa wb | _ => Below wa.heap.size wa wb) (fun ii b wx => match ii with
    | 0 => b.tmps.getD 80 undef = .agg #[.slice A ln.length c, .slice P lp.length d]
    | 1 => NetVv w11.heap.size ln lp (b.tmps.getD 81 undef) wx
    | 2 => b.tmps.getD 82 undef = .agg #[.int .i64 ak, .int .i64 aa, .int .i64 ab, .int .i64 m.k, .int .i64 m.r, .int .i64 m.v, .int .i64 m.p, .int .i64 m.f]
    | 3 => b.tmps.getD 83 undef = .agg #[.int .i64 ak, .int .i64 aa, .int .i64 ab, .int .i64 m.k, .int .i64 m.r, .int .i64 m.v, .int .i64 m.p, .int .i64 m.f]
    | 4 => NetG r w11.heap.size (b.tmps.getD 84 undef) wx
    | 5 => NetG r w11.heap.size (b.tmps.getD 79 undef) wx
    | 6 => ∃ (A1 : Option Addr) (c1 : Nat) (P1 : Option Addr) (d1 : Nat), b.tmps.getD 79 undef = .tuple #[.agg #[.slice A1 r.1.length c1, .slice P1 r.2.1.length d1], .bool r.2.2] ∧ b.tmps.getD 85 undef = .agg #[.slice A1 r.1.length c1, .slice P1 r.2.1.length d1]
    | 7 => b.tmps.getD 86 undef = .bool r.2.2
    | 8 => ∃ (q : Nat) (cs : Array Value), b.tmps.getD 14 undef = .pointer (some ⟨q, 0, none⟩) ∧ w11.heap.size ≤ q ∧ cs.size = 2 ∧ Blk wx q 27 cs
    | 9 => ∃ (q : Nat) (A1 : Option Addr) (c1 : Nat) (P1 : Option Addr) (d1 : Nat), b.tmps.getD 14 undef = .pointer (some ⟨q, 0, none⟩) ∧ b.tmps.getD 85 undef = .agg #[.slice A1 r.1.length c1, .slice P1 r.2.1.length d1] ∧ w11.heap.size ≤ q ∧ Blk wx q 27 #[.slice A1 r.1.length c1, .slice P1 r.2.1.length d1]
    | _ => True) (by kernel_rfl) (by kernel_rfl) ((Below.refl _ _).drew) ?_ ?_ ?_
  · intro b wa wb i7 j7 oj v hi hj hij hoj hdep hE h
    simp only [List.mem_cons, List.not_mem_nil, or_false] at hi hj
    rcases hj with rfl | rfl | rfl | rfl | rfl | rfl | rfl | rfl | rfl | rfl
    all_goals obtain rfl := Option.some.inj hoj
    · rcases hi with rfl | rfl | rfl | rfl | rfl | rfl | rfl | rfl | rfl | rfl
      · exact absurd rfl hij
      · exact absurd rfl (hdep _ rfl ⟨0, .data⟩ (by simp) rfl)
      · simp only at hE h ⊢; exact getk' h (by decide)
      · simp only at hE h ⊢; exact getk' h (by decide)
      · simp only at hE h ⊢; exact (h.below hE).slot (getk' rfl (by decide))
      · simp only at hE h ⊢; exact (h.below hE).slot (getk' rfl (by decide))
      · simp only at hE h ⊢; obtain ⟨A1, c1, P1, d1, e, h⟩ := h; exact ⟨A1, c1, P1, d1, getk' e (by decide), getk' h (by decide)⟩
      · simp only at hE h ⊢; exact getk' h (by decide)
      · simp only at hE h ⊢; obtain ⟨q1, cs1, e, h1, h2, h⟩ := h; exact ⟨q1, cs1, getk' e (by decide), h1, h2, h.below hE h.lt⟩
      · simp only at hE h ⊢; obtain ⟨q1, A1, c1, P1, d1, e, e5, h1, h⟩ := h; exact ⟨q1, A1, c1, P1, d1, getk' e (by decide), getk' e5 (by decide), h1, h.below hE h.lt⟩
    · rcases hi with rfl | rfl | rfl | rfl | rfl | rfl | rfl | rfl | rfl | rfl
      · simp only at hE h ⊢; exact getk' h (by decide)
      · exact absurd rfl hij
      · simp only at hE h ⊢; exact getk' h (by decide)
      · simp only at hE h ⊢; exact getk' h (by decide)
      · exact absurd rfl (hdep _ rfl ⟨1, .data⟩ (by simp) rfl)
      · simp only at hE h ⊢; exact (h.below hE).slot (getk' rfl (by decide))
      · simp only at hE h ⊢; obtain ⟨A1, c1, P1, d1, e, h⟩ := h; exact ⟨A1, c1, P1, d1, getk' e (by decide), getk' h (by decide)⟩
      · simp only at hE h ⊢; exact getk' h (by decide)
      · simp only at hE h ⊢; obtain ⟨q1, cs1, e, h1, h2, h⟩ := h; exact ⟨q1, cs1, getk' e (by decide), h1, h2, h.below hE h.lt⟩
      · simp only at hE h ⊢; obtain ⟨q1, A1, c1, P1, d1, e, e5, h1, h⟩ := h; exact ⟨q1, A1, c1, P1, d1, getk' e (by decide), getk' e5 (by decide), h1, h.below hE h.lt⟩
    · rcases hi with rfl | rfl | rfl | rfl | rfl | rfl | rfl | rfl | rfl | rfl
      · simp only at hE h ⊢; exact getk' h (by decide)
      · simp only at hE h ⊢; exact (h.below hE).slot (getk' rfl (by decide))
      · exact absurd rfl hij
      · exact absurd rfl (hdep _ rfl ⟨2, .data⟩ (by simp) rfl)
      · simp only at hE h ⊢; exact (h.below hE).slot (getk' rfl (by decide))
      · simp only at hE h ⊢; exact (h.below hE).slot (getk' rfl (by decide))
      · simp only at hE h ⊢; obtain ⟨A1, c1, P1, d1, e, h⟩ := h; exact ⟨A1, c1, P1, d1, getk' e (by decide), getk' h (by decide)⟩
      · simp only at hE h ⊢; exact getk' h (by decide)
      · simp only at hE h ⊢; obtain ⟨q1, cs1, e, h1, h2, h⟩ := h; exact ⟨q1, cs1, getk' e (by decide), h1, h2, h.below hE h.lt⟩
      · simp only at hE h ⊢; obtain ⟨q1, A1, c1, P1, d1, e, e5, h1, h⟩ := h; exact ⟨q1, A1, c1, P1, d1, getk' e (by decide), getk' e5 (by decide), h1, h.below hE h.lt⟩
    · rcases hi with rfl | rfl | rfl | rfl | rfl | rfl | rfl | rfl | rfl | rfl
      · simp only at hE h ⊢; exact getk' h (by decide)
      · simp only at hE h ⊢; exact (h.below hE).slot (getk' rfl (by decide))
      · simp only at hE h ⊢; exact getk' h (by decide)
      · exact absurd rfl hij
      · exact absurd rfl (hdep _ rfl ⟨3, .data⟩ (by simp) rfl)
      · simp only at hE h ⊢; exact (h.below hE).slot (getk' rfl (by decide))
      · simp only at hE h ⊢; obtain ⟨A1, c1, P1, d1, e, h⟩ := h; exact ⟨A1, c1, P1, d1, getk' e (by decide), getk' h (by decide)⟩
      · simp only at hE h ⊢; exact getk' h (by decide)
      · simp only at hE h ⊢; obtain ⟨q1, cs1, e, h1, h2, h⟩ := h; exact ⟨q1, cs1, getk' e (by decide), h1, h2, h.below hE h.lt⟩
      · simp only at hE h ⊢; obtain ⟨q1, A1, c1, P1, d1, e, e5, h1, h⟩ := h; exact ⟨q1, A1, c1, P1, d1, getk' e (by decide), getk' e5 (by decide), h1, h.below hE h.lt⟩
    · rcases hi with rfl | rfl | rfl | rfl | rfl | rfl | rfl | rfl | rfl | rfl
      · simp only at hE h ⊢; exact getk' h (by decide)
      · simp only at hE h ⊢; exact (h.below hE).slot (getk' rfl (by decide))
      · simp only at hE h ⊢; exact getk' h (by decide)
      · simp only at hE h ⊢; exact getk' h (by decide)
      · exact absurd rfl hij
      · exact absurd rfl (hdep _ rfl ⟨4, .data⟩ (by simp) rfl)
      · simp only at hE h ⊢; obtain ⟨A1, c1, P1, d1, e, h⟩ := h; exact ⟨A1, c1, P1, d1, getk' e (by decide), getk' h (by decide)⟩
      · simp only at hE h ⊢; exact getk' h (by decide)
      · simp only at hE h ⊢; obtain ⟨q1, cs1, e, h1, h2, h⟩ := h; exact ⟨q1, cs1, getk' e (by decide), h1, h2, h.below hE h.lt⟩
      · simp only at hE h ⊢; obtain ⟨q1, A1, c1, P1, d1, e, e5, h1, h⟩ := h; exact ⟨q1, A1, c1, P1, d1, getk' e (by decide), getk' e5 (by decide), h1, h.below hE h.lt⟩
    · rcases hi with rfl | rfl | rfl | rfl | rfl | rfl | rfl | rfl | rfl | rfl
      · simp only at hE h ⊢; exact getk' h (by decide)
      · simp only at hE h ⊢; exact (h.below hE).slot (getk' rfl (by decide))
      · simp only at hE h ⊢; exact getk' h (by decide)
      · simp only at hE h ⊢; exact getk' h (by decide)
      · simp only at hE h ⊢; exact (h.below hE).slot (getk' rfl (by decide))
      · exact absurd rfl hij
      · exact absurd rfl (hdep _ rfl ⟨5, .data⟩ (by simp) rfl)
      · exact absurd rfl (hdep _ rfl ⟨5, .data⟩ (by simp) rfl)
      · simp only at hE h ⊢; obtain ⟨q1, cs1, e, h1, h2, h⟩ := h; exact ⟨q1, cs1, getk' e (by decide), h1, h2, h.below hE h.lt⟩
      · simp only at hE h ⊢; obtain ⟨q1, A1, c1, P1, d1, e, e5, h1, h⟩ := h; exact ⟨q1, A1, c1, P1, d1, getk' e (by decide), getk' e5 (by decide), h1, h.below hE h.lt⟩
    · rcases hi with rfl | rfl | rfl | rfl | rfl | rfl | rfl | rfl | rfl | rfl
      · simp only at hE h ⊢; exact getk' h (by decide)
      · simp only at hE h ⊢; exact (h.below hE).slot (getk' rfl (by decide))
      · simp only at hE h ⊢; exact getk' h (by decide)
      · simp only at hE h ⊢; exact getk' h (by decide)
      · simp only at hE h ⊢; exact (h.below hE).slot (getk' rfl (by decide))
      · simp only at hE h ⊢; exact (h.below hE).slot (getk' rfl (by decide))
      · exact absurd rfl hij
      · simp only at hE h ⊢; exact getk' h (by decide)
      · simp only at hE h ⊢; obtain ⟨q1, cs1, e, h1, h2, h⟩ := h; exact ⟨q1, cs1, getk' e (by decide), h1, h2, h.below hE h.lt⟩
      · exact absurd rfl (hdep _ rfl ⟨6, .data⟩ (by simp) rfl)
    · rcases hi with rfl | rfl | rfl | rfl | rfl | rfl | rfl | rfl | rfl | rfl
      · simp only at hE h ⊢; exact getk' h (by decide)
      · simp only at hE h ⊢; exact (h.below hE).slot (getk' rfl (by decide))
      · simp only at hE h ⊢; exact getk' h (by decide)
      · simp only at hE h ⊢; exact getk' h (by decide)
      · simp only at hE h ⊢; exact (h.below hE).slot (getk' rfl (by decide))
      · simp only at hE h ⊢; exact (h.below hE).slot (getk' rfl (by decide))
      · simp only at hE h ⊢; obtain ⟨A1, c1, P1, d1, e, h⟩ := h; exact ⟨A1, c1, P1, d1, getk' e (by decide), getk' h (by decide)⟩
      · exact absurd rfl hij
      · simp only at hE h ⊢; obtain ⟨q1, cs1, e, h1, h2, h⟩ := h; exact ⟨q1, cs1, getk' e (by decide), h1, h2, h.below hE h.lt⟩
      · simp only at hE h ⊢; obtain ⟨q1, A1, c1, P1, d1, e, e5, h1, h⟩ := h; exact ⟨q1, A1, c1, P1, d1, getk' e (by decide), getk' e5 (by decide), h1, h.below hE h.lt⟩
    · rcases hi with rfl | rfl | rfl | rfl | rfl | rfl | rfl | rfl | rfl | rfl
      · simp only at hE h ⊢; exact getk' h (by decide)
      · simp only at hE h ⊢; exact (h.below hE).slot (getk' rfl (by decide))
      · simp only at hE h ⊢; exact getk' h (by decide)
      · simp only at hE h ⊢; exact getk' h (by decide)
      · simp only at hE h ⊢; exact (h.below hE).slot (getk' rfl (by decide))
      · simp only at hE h ⊢; exact (h.below hE).slot (getk' rfl (by decide))
      · simp only at hE h ⊢; obtain ⟨A1, c1, P1, d1, e, h⟩ := h; exact ⟨A1, c1, P1, d1, getk' e (by decide), getk' h (by decide)⟩
      · simp only at hE h ⊢; exact getk' h (by decide)
      · exact absurd rfl hij
      · exact absurd rfl (hdep _ rfl ⟨8, .data⟩ (by simp) rfl)
    · rcases hi with rfl | rfl | rfl | rfl | rfl | rfl | rfl | rfl | rfl | rfl
      · simp only at hE h ⊢; exact getk' h (by decide)
      · simp only at hE h ⊢; exact (h.turn hE).slot (getk' rfl (by decide))
      · simp only at hE h ⊢; exact getk' h (by decide)
      · simp only at hE h ⊢; exact getk' h (by decide)
      · simp only at hE h ⊢; exact (h.turn hE).slot (getk' rfl (by decide))
      · simp only at hE h ⊢; exact (h.turn hE).slot (getk' rfl (by decide))
      · simp only at hE h ⊢; obtain ⟨A1, c1, P1, d1, e, h⟩ := h; exact ⟨A1, c1, P1, d1, getk' e (by decide), getk' h (by decide)⟩
      · simp only at hE h ⊢; exact getk' h (by decide)
      · simp only at hE h ⊢; obtain ⟨q1, cs1, e, h1, h2, h⟩ := h; obtain ⟨cs2, h3, h4⟩ := hE.box h; exact ⟨q1, cs2, getk' e (by decide), h1, h3.trans h2, h4⟩
      · exact absurd rfl hij
  · intro j7 o hj ho a' w' hC hsame hdep
    simp only [List.mem_cons, List.not_mem_nil, or_false] at hj
    rcases hj with rfl | rfl | rfl | rfl | rfl | rfl | rfl | rfl | rfl | rfl
    all_goals obtain rfl := Option.some.inj ho
    · have hs : a'.tmps.getD 2 undef = .pointer (some ⟨w.heap.size, 0, none⟩) := hsame 2 (by rfl)
      have zz := (XA11.out.below hC XA11.out.lt).cell
      refine wp_val (w2 := w') (.agg #[.slice A ln.length c, .slice P lp.length d]) (fun K hK => ?_) ⟨_, rfl, hC, Below.refl _ _, fun b hb hb2 => hb 80 rfl⟩
      clear hsame hdep
      unfold Oper.wp
      simp [execOp, Act.eval, go_sem, hs, zz]
      exact hK
    · have e1 : a'.tmps.getD 80 undef = .agg #[.slice A ln.length c, .slice P lp.length d] := hdep ⟨0, .data⟩ (by simp) rfl
      have hrn : NodesRd w' w'.heap.size A ln.length c ln := (HL.out.below (B11.out.trans (hC.mono B11.out.size)) (Nat.le_refl _)).more (Nat.le_trans B11.out.size hC.size)
      have hrp : RdL msgC 5 w' w'.heap.size P lp.length d lp := (HP.out.below (B11.out.trans (hC.mono B11.out.size)) (Nat.le_refl _)).more (Nat.le_trans B11.out.size hC.size)
      refine wp_call (fun u wq => NetVv w11.heap.size ln lp u wq ∧ Below w'.heap.size w' wq) (fun K hK => ?_) ?_
      · clear hsame hdep
        unfold Oper.wp
        simp [Act.eval, e1, go_sem]
        refine (toNet2_any A c P d ln lp _ hrn hrp HNN.out.1 HNN.out.2.1 HNN.out.2.2).mono ?_
        intro e w3' h
        obtain ⟨v3, rfl⟩ : ∃ v3, e = .returned v3 := by obtain ⟨_, _, _, _, _, e, _⟩ := h; exact ⟨_, e⟩
        obtain ⟨⟨A4, c4, P4, d4, h1, h2⟩, h3⟩ := NetOut2.ap h
        exact hK _ _ ⟨⟨A4, c4, P4, d4, _, _, h1, hC.size, h2⟩, h3⟩
      · rintro u w3' ⟨hnf, hb3⟩
        exact ⟨_, rfl, hC.trans (hb3.mono hC.size), hb3, fun b hb _ => hnf.slot (hb 81 rfl)⟩
    · have hs : a'.tmps.getD 3 undef = .pointer (some ⟨(w.heap.size + 1), 0, none⟩) := hsame 3 (by rfl)
      have zz := (XY11.out.below hC XY11.out.lt).cell
      refine wp_val (w2 := w') (.agg #[.int .i64 ak, .int .i64 aa, .int .i64 ab, .int .i64 m.k, .int .i64 m.r, .int .i64 m.v, .int .i64 m.p, .int .i64 m.f]) (fun K hK => ?_) ⟨_, rfl, hC, Below.refl _ _, fun b hb hb2 => hb 82 rfl⟩
      clear hsame hdep
      unfold Oper.wp
      simp [execOp, Act.eval, go_sem, hs, zz]
      exact hK
    · have e1 : a'.tmps.getD 82 undef = .agg #[.int .i64 ak, .int .i64 aa, .int .i64 ab, .int .i64 m.k, .int .i64 m.r, .int .i64 m.v, .int .i64 m.p, .int .i64 m.f] := hdep ⟨2, .data⟩ (by simp) rfl
      refine wp_call (fun u wq => u = .agg #[.int .i64 ak, .int .i64 aa, .int .i64 ab, .int .i64 m.k, .int .i64 m.r, .int .i64 m.v, .int .i64 m.p, .int .i64 m.f] ∧ Below w'.heap.size w' wq) (fun K hK => ?_) ?_
      · clear hsame hdep
        unfold Oper.wp
        simp [Act.eval, e1, go_sem]
        refine (toNetAct_any ak aa ab m.k m.r m.v m.p m.f _).mono ?_
        rintro e w3' ⟨rfl, hb3⟩
        exact hK _ _ ⟨rfl, hb3⟩
      · rintro u w3' ⟨rfl, hb3⟩
        exact ⟨_, rfl, hC.trans (hb3.mono hC.size), hb3, fun b hb _ => hb 83 rfl⟩
    · obtain ⟨A4, c4, P4, d4, lo4, hi4, e1, hl4, hn4⟩ := hdep ⟨1, .data⟩ (by simp) rfl
      have hrn := hn4.rdn
      have hrp := hn4.rdp
      have e2 : a'.tmps.getD 83 undef = .agg #[.int .i64 ak, .int .i64 aa, .int .i64 ab, .int .i64 m.k, .int .i64 m.r, .int .i64 m.v, .int .i64 m.p, .int .i64 m.f] := hdep ⟨3, .data⟩ (by simp) rfl
      refine wp_call (fun u wq => NetG r w11.heap.size u wq ∧ Below w'.heap.size w' wq) (fun K hK => ?_) ?_
      · clear hsame hdep
        unfold Oper.wp
        simp [Act.eval, e1, e2, go_sem]
        refine (NetDo_any A4 ln.length c4 P4 lp.length d4 ln lp ak aa ab m _ hrn hrp).mono ?_
        intro e w3' h
        rw [HRR.out] at h
        obtain ⟨v3, rfl⟩ : ∃ v3, e = .returned v3 := by obtain ⟨_, _, _, _, _, _, e, _⟩ := h; exact ⟨_, e⟩
        obtain ⟨⟨A5, c5, P5, d5, lo5, hi5, h1, h2, h3⟩, h4⟩ := NetDid.ap h
        exact hK _ _ ⟨⟨A5, c5, P5, d5, lo5, hi5, h1, Nat.le_trans hC.size h2, h3⟩, h4⟩
      · rintro u w3' ⟨hnf, hb3⟩
        exact ⟨_, rfl, hC.trans (hb3.mono hC.size), hb3, fun b hb _ => hnf.slot (hb 84 rfl)⟩
    · obtain ⟨A7, c7, P7, d7, lo7, hi7, e1, hlo7, hs7⟩ := hdep ⟨4, .data⟩ (by simp) rfl
      refine wp_val (w2 := w') (.tuple #[.agg #[.slice A7 r.1.length c7, .slice P7 r.2.1.length d7], .bool r.2.2]) (fun K hK => ?_) ⟨_, rfl, hC, Below.refl _ _, fun b hb hb2 => ⟨A7, c7, P7, d7, lo7, hi7, hb 79 rfl, hlo7, hs7⟩⟩
      clear hsame hdep
      unfold Oper.wp
      simp [execOp, Act.eval, go_sem, e1]
      exact hK
    · obtain ⟨A7, c7, P7, d7, lo7, hi7, e1, hlo7, hs7⟩ := hdep ⟨5, .data⟩ (by simp) rfl
      refine wp_val (w2 := w') (.agg #[.slice A7 r.1.length c7, .slice P7 r.2.1.length d7]) (fun K hK => ?_) ⟨_, rfl, hC, Below.refl _ _, fun b hb hb2 => ⟨A7, c7, P7, d7, (hb2 79 (by intro d h; cases h; decide)).trans e1, hb 85 rfl⟩⟩
      clear hsame hdep
      unfold Oper.wp
      simp [execOp, Act.eval, go_sem, e1]
      exact hK
    · obtain ⟨A7, c7, P7, d7, lo7, hi7, e1, hlo7, hs7⟩ := hdep ⟨5, .data⟩ (by simp) rfl
      refine wp_val (w2 := w') (.bool r.2.2) (fun K hK => ?_) ⟨_, rfl, hC, Below.refl _ _, fun b hb hb2 => hb 86 rfl⟩
      clear hsame hdep
      unfold Oper.wp
      simp [execOp, Act.eval, go_sem, e1]
      exact hK
    · have hnew := heap_alloc_new w' (.cells #[.slice none 0 0, .slice none 0 0] 27)
      refine wp_val (w2 := w'.alloc (.cells #[.slice none 0 0, .slice none 0 0] 27)) (.pointer (some ⟨w'.heap.size, 0, none⟩)) (fun K hK => ?_) ⟨_, rfl, hC.alloc hC.size _, (Below.refl _ _).alloc (Nat.le_refl _) _, fun b hb _ => ⟨w'.heap.size, _, hb 14 rfl, hC.size, rfl, show Blk _ _ _ _ from hnew⟩⟩
      clear hsame hdep hnew
      unfold Oper.wp
      simp [execOp, go_sem]
      exact hK
    · obtain ⟨q0, cs0, e1, hq0, hsz, hblk⟩ := hdep ⟨8, .data⟩ (by simp) rfl
      obtain ⟨A7, c7, P7, d7, e3, e2⟩ := hdep ⟨6, .data⟩ (by simp) rfl
      clear e3
      obtain ⟨u0, u1, rfl⟩ := two_cells hsz
      have zz := hblk.cell
      have ff := hblk.frozen
      obtain ⟨w9, hw9⟩ : ∃ z, z = ((w'.setCell ⟨q0, 0, none⟩ (.slice A7 r.1.length c7)).setCell ⟨q0, 1, none⟩ (.slice P7 r.2.1.length d7)) := ⟨_, rfl⟩
      have hchg : Chg q0 (q0 + 1) w' w9 := by rw [hw9]; (repeat (first | with_reducible refine Chg.setCell ?_ (by first | exact Nat.le_refl _ | (simp; done) | (simp; omega)) (by first | (simp; done) | (simp; omega)) _ | with_reducible refine Chg.alloc ?_ _ | with_reducible refine Chg.drew ?_)); (with_reducible exact Chg.refl _ _ _)
      have hblk2 : Blk w9 q0 27 #[.slice A7 r.1.length c7, .slice P7 r.2.1.length d7] := by
        rw [hw9]
        have hb := (hblk.set_ 0 (.slice A7 r.1.length c7)).set_ 1 (.slice P7 r.2.1.length d7)
        simp only [List.setIfInBounds_toArray, List.set_cons_zero, List.set_cons_succ] at hb
        exact hb
      have hturn := BoxTurn.of_blk hblk hblk2 rfl hchg
      have hcls : Below w11.heap.size w11 w9 := hC.trans (hchg.below hq0 hC.size)
      refine wp_val (w2 := w9) undef (fun K hK => ?_) ⟨_, rfl, hcls, hturn, fun b _ hb => ⟨q0, A7, c7, P7, d7, (hb 14 (by intro d h; cases h)).trans e1, (hb 85 (by intro d h; cases h)).trans e2, hq0, hblk2⟩⟩
      rw [hw9] at hK
      clear hsame hdep hchg hblk2 hturn hcls hw9 hblk
      unfold Oper.wp
      simp [execOp, Act.eval, e1, e2, go_sem, zz, ff]
      exact hK
  intro a' w12 hb ha hP
  obtain ⟨qh, Ah, ch, Ph, dh, t1, f1, hqh, hblk⟩ := hP 9 (by simp)
  obtain ⟨A8, c8, P8, d8, f3, f2⟩ := hP 6 (by simp)
  obtain ⟨A9, c9, P9, d9, loh, hih, f4, hloh, hs9⟩ := hP 5 (by simp)
  have t4 : a'.tmps.getD 86 undef = .bool r.2.2 := hP 7 (by simp)
  clear hP
  have ex := f1.symm.trans f2
  simp only [Value.agg.injEq, Array.mk.injEq, List.cons.injEq, Value.slice.injEq, true_and, and_true] at ex
  obtain ⟨⟨rfl, rfl⟩, rfl, rfl⟩ := ex
  have ey := f3.symm.trans f4
  simp only [Value.tuple.injEq, Value.agg.injEq, Array.mk.injEq, List.cons.injEq, Value.slice.injEq, true_and, and_true] at ey
  obtain ⟨⟨rfl, rfl⟩, rfl, rfl⟩ := ey
  clear f1 f2 f3 f4
  simp only [coreOps, List.filterMap_cons, List.filterMap_nil, List.getElem?_cons_zero, List.getElem?_cons_succ, fillA, slotOf, Act.put, t1, t4] at ha
  generalize a'.tmps.getD 80 undef = u80 at ha
  generalize a'.tmps.getD 81 undef = u81 at ha
  generalize a'.tmps.getD 82 undef = u82 at ha
  generalize a'.tmps.getD 83 undef = u83 at ha
  generalize a'.tmps.getD 84 undef = u84 at ha
  generalize a'.tmps.getD 79 undef = u79 at ha
  generalize a'.tmps.getD 85 undef = u85 at ha
  subst ha
  clear t4 t1
  have HK := Lib.hid hblk
  have HF := Lib.hid hs9
  clear hblk hs9
  show wpAny _ _ _ _ 1 _ _ _
  refine wpAny_ready (rs := [10]) (by kernel_rfl) (by simp) ?_
  refine AllReady.cons rfl (fun K hK => ?_) AllReady.nil
  go_simp
  refine hK _ _ ?_
  clear hK K
  refine wpAny_done (by kernel_rfl) ?_ _
  have hs12 := hb.size
  have B12 := Lib.hid (B11.out.trans (hb.mono B11.out.size))
  have XA12 := Lib.hid (XA11.out.below hb XA11.out.lt)
  have XY12 := Lib.hid (XY11.out.below hb XY11.out.lt)
  have XP12 := Lib.hid (XP11.out.below hb XP11.out.lt)
  have NP12 := Lib.hid (NP11.out.below hb)
  have XG12 := Lib.hid (XG11.out.below hb XG11.out.lt)
  have MN12 := Lib.hid ((MN11.out.below hb (Nat.le_refl _)).more hs12)
  have MP12 := Lib.hid ((MP11.out.below hb (Nat.le_refl _)).more hs12)
  clear hb B11 XA11 XY11 XP11 NP11 XG11 MN11 MP11
  have XH12 := HK
  have NH12 := HF
  clear HK HF
  have ceXH := XH12.out.cell
  have lbXH := XH12.out.lt
  have ceXP := XP12.out.cell
  have lbXP := XP12.out.lt
  go_wp2_with fail
  refine (eqNet_same Ah r.1.length ch Ph r.2.1.length dh Ap cp Pp dp r.1 r.2.1 _ NH12.out.rdn NH12.out.rdp NP12.out.rdn NP12.out.rdp).mono ?_
  rintro e w13 ⟨rfl, hb⟩
  clear ceXH lbXH ceXP lbXP
  have hs13 := hb.size
  have B13 := Lib.hid (B12.out.trans (hb.mono B12.out.size))
  have XA13 := Lib.hid (XA12.out.below hb XA12.out.lt)
  have XY13 := Lib.hid (XY12.out.below hb XY12.out.lt)
  have XP13 := Lib.hid (XP12.out.below hb XP12.out.lt)
  have NP13 := Lib.hid (NP12.out.below hb)
  have XG13 := Lib.hid (XG12.out.below hb XG12.out.lt)
  have MN13 := Lib.hid ((MN12.out.below hb (Nat.le_refl _)).more hs13)
  have MP13 := Lib.hid ((MP12.out.below hb (Nat.le_refl _)).more hs13)
  have XH13 := Lib.hid (XH12.out.below hb XH12.out.lt)
  have NH13 := Lib.hid (NH12.out.below hb)
  clear hb B12 XA12 XY12 XP12 NP12 XG12 MN12 MP12 XH12 NH12
  clear NH13
  clear XH13
  clear NP13
  clear XP13
  clear XA13
  clear XY13
  have ceXG := XG13.out.cell
  have lbXG := XG13.out.lt
  go_wp2_with fail
  refine (heldNetX_any Ag r.1.length cg r.1 lm Pg r.2.1.length dg 1 _ MN13.out MX.out MP13.out (by decide) (by omega) (by omega) (by omega)).mono ?_
  rintro e w14 ⟨rfl, hb⟩
  clear ceXG lbXG
  have hs14 := hb.size
  have B14 := Lib.hid (B13.out.trans (hb.mono B13.out.size))
  have XG14 := Lib.hid (XG13.out.below hb XG13.out.lt)
  have MN14 := Lib.hid ((MN13.out.below hb (Nat.le_refl _)).more hs14)
  have MP14 := Lib.hid ((MP13.out.below hb (Nat.le_refl _)).more hs14)
  clear hb B13 XG13 MN13 MP13
  go_wp2_with fail
  go_ret
  exact ⟨rfl, B14.out⟩
set_option maxRecDepth 100000 in
  theorem ExactNetDo_lifted (os : Os) (started : os.Started) (H : Type) (enc : TypeId × Value → H) :
      ReturnsInHanded {} Try.checked os 4 .any (Rows.fnExactNetDoSpec.pre6 enc Try.prog Try.f4 Rows.fnExactNetDoRow.domain false) (Rows.fnExactNetDoSpec.post enc Try.prog Try.f4 false true false false) := by
  refine returnsInHanded_of_change (C := Try.checked) own started (by kernel_rfl) Try.func4
    (ChangeSpec.witness6 (enc := enc) (C := Try.checked) false ⟨#[], #[.agg #[.slice none 0 0, .slice none 0 0], .agg #[.int .i64 0, .int .i64 0, .int .i64 0, .int .i64 0, .int .i64 0, .int .i64 0, .int .i64 0, .int .i64 0]], []⟩ 8 (by kernel_rfl) (by kernel_rfl) (by kernel_rfl) (by kernel_rfl)) ?_
  intro W base args ds gs before hval0 hW hcnd _
  have hval : ∀ (j : Nat) t v, Try.f4.params[j]? = some t → args[j]? = some v → Value.okWide Try.prog W .any base t v := hval0
  have hW' := hW
  obtain ⟨p, q, hA0, hV, rfl, hfz, hnd⟩ := hW
  have hA : DataW.TrodAll enc Try.prog W 0 (fun _ => true) true Try.f4.params.toList args.toList ds p := hA0
  rw [Try.params4] at hA hval
  obtain ⟨v0, vs0, d0, ds0, p0, q0, hargs, rfl, rfl, h0, r0⟩ := trodAll_cons hA
  obtain ⟨v1, vs1, d1, ds1, p1, q1, rfl, rfl, rfl, h1, r1⟩ := trodAll_cons r0
  obtain ⟨rfl, rfl, rfl⟩ := trodAll_nil r1
  obtain rfl : args = #[v0, v1] := by cases args; simp_all
  obtain ⟨A, c, P, d, ln, lp, rfl, hl, hp⟩ := open_net (hval 0 40 v0 rfl rfl) h0
  obtain ⟨ak, aa, ab, m, rfl⟩ := open_act (hval 1 44 v1 rfl rfl) h1
  refine (ExactNetDo_walk A c P d ln lp ak aa ab m W hl hp).mono fun e W' ⟨he, hb⟩ => ?_
  subst he
  refine ⟨_, rfl, law_post (f := Try.f4) (tb := 4) rfl Try.underlying4 rfl (by kernel_rfl) (fun gs hg => by subst hg; rfl) (fun gs hg => by subst hg; rfl) (fun gs hg => by subst hg; rfl) hW' hb⟩

theorem ExactNetDo_holds : Rows.FnExactNetDoSaid :=
  OpenClaim.holds_of_wide 4 Try.f4 rfl rfl rfl rfl rfl rfl rfl ⟨rfl, rfl, rfl, rfl, rfl⟩ rfl rfl rfl rfl rfl (by kernel_rfl) Try.func4 (by kernel_rfl)
    (of_decide_eq_true (by kernel_rfl)) (by unfold Func.isWrapper; first | (rw [if_pos (by decide +kernel)]; kernel_rfl) | (rw [if_neg (by decide +kernel)]; exact ⟨rfl, rfl⟩))
    (fun os started H enc _ => ExactNetDo_lifted os started H enc)
#print axioms ExactNetDo_holds
end Go.Proofs.Ytjgaelnonacdkaa
