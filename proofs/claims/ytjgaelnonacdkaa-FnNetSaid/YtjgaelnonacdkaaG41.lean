/- NetPlay, FamNetAct: joined into one text. -/
import Derived.WalkKit
import Derived.WalkSpells
import Derived.WalkLawsBesides
import Derived.Lib.Hide
import Derived.Laws.NewBlocks
import Derived.Test.YtjgaelnonacdkaaMNetDo
import Derived.Test.YtjgaelnonacdkaaFamNMsg
namespace Go.Proofs.Ytjgaelnonacdkaa
open Go.RowKit

def doN (ln : List NodeD) (lp : List NMsgD) (a : ActD) : List NodeD × List NMsgD × Bool := if netB ln lp = true then netDoN ln lp a else ([], [], false)
theorem NodesOwn.nil (w : World) (lo hi : Nat) : NodesOwn w lo hi none 0 0 [] := ⟨[], ⟨rfl, .inl ⟨rfl, rfl, rfl⟩⟩, rfl, fun i v hv => by simp at hv, fun i j vi vj g hi => by simp at hi⟩
theorem msgs_nil (w : World) (lo hi : Nat) : OwnL msgC 5 49 w lo hi none 0 0 [] := ⟨rfl, .inl ⟨rfl, rfl, rfl⟩⟩

set_option maxRecDepth 100000 in
set_option maxHeartbeats 4000000 in
theorem NetDo_any (A : Option Addr) (n c : Nat) (P : Option Addr) (p d : Nat) (ln : List NodeD) (lp : List NMsgD) (ak aa ab : Int) (m : NMsgD) (w : World) (hl : NodesRd w w.heap.size A n c ln) (hp : RdL msgC 5 w w.heap.size P p d lp) :
    Calls Try.prog 20 #[.agg #[.slice A n c, .slice P p d], .agg #[.int .i64 ak, .int .i64 aa, .int .i64 ab, .int .i64 m.k, .int .i64 m.r, .int .i64 m.v, .int .i64 m.p, .int .i64 m.f]] w (NetDid (doN ln lp ⟨ak, aa, ab, m⟩) w) := by
  have hln : ln.length = n := by obtain ⟨_, _, h, _⟩ := hl; exact h
  subst hln
  obtain rfl : lp.length = p := hp.1
  have HL := Lib.hid hl
  have HP := Lib.hid hp
  clear hl hp
  have sz3 : ∀ (o1 o2 o3 : Obj), ((((w.alloc o1).alloc o2).alloc o3).heap.size = w.heap.size + 1 + 1 + 1) := fun o1 o2 o3 => by simp
  have HS3 := Lib.hid sz3
  clear sz3
  cases hB : netB ln lp
  · have HE : Hid (doN ln lp ⟨ak, aa, ab, m⟩ = ([], [], false)) := Lib.hid (by unfold doN; rw [hB]; rfl)
    have HB := Lib.hid hB
    clear hB
    go_enter Try.func20, Try.ntmps20
    go_wp2_with fail
    refine (NetOk_any A ln.length c P lp.length d ln lp _ ?_ ?_).mono ?_
    · exact (((HL.out.alloc (Nat.le_refl _) _).alloc (by simp) _).alloc (by simp; omega) _).more (by simp; omega)
    · exact (((HP.out.alloc (Nat.le_refl _) _).alloc (by simp) _).alloc (by simp; omega) _).more (by simp; omega)
    rw [HB.out]
    rintro e w1 ⟨rfl, hb⟩
    rw [HS3.out] at hb
    have hR1 : Blk w1 (w.heap.size + 1 + 1) 27 #[.slice none 0 0, .slice none 0 0] := (blk_alloc3 w (.cells #[.slice A ln.length c, .slice P lp.length d] 27) (.cells #[.int .i64 ak, .int .i64 aa, .int .i64 ab, .int .i64 m.k, .int .i64 m.r, .int .i64 m.v, .int .i64 m.p, .int .i64 m.f] 51) #[.slice none 0 0, .slice none 0 0] 27).below hb (by omega)
    have hs1 := hb.size
    rw [HS3.out] at hs1
    have B1 : Hid (Below w.heap.size w w1) := Lib.hid ((((Below.refl _ _).alloc (Nat.le_refl _) _).alloc (by simp) _).alloc (by simp; omega) _ |>.trans (hb.mono (by omega)))
    clear hb
    have cer := hR1.cell
    have fzr := hR1.frozen
    clear hR1
    go_wp2_with fail
    refine bodyPost_ret (v := .tuple #[.agg #[.slice none 0 0, .slice none 0 0], .bool false]) (by simp [results, Try.results20, go_sem, cer]) rfl ?_
    refine NetDid.mk HE.out rfl rfl (NetIn.close (w := w1) (lo := w.heap.size + 3) (m1 := w.heap.size + 3) (m2 := w.heap.size + 3) (R := w.heap.size + 1 + 1) (NodesOwn.nil _ _ _) (.inl (msgs_nil _ _ _)) (by (repeat (first | with_reducible refine Chg.setCell ?_ (by first | exact Nat.le_refl _ | (simp; done) | (simp; omega)) (by first | (simp; done) | (simp; omega)) _ | with_reducible refine Chg.alloc ?_ _ | with_reducible refine Chg.drew ?_)); (with_reducible exact Chg.refl _ _ _)) (by omega) (by omega) (Nat.le_refl _) (Nat.le_refl _) (by omega)) ?_
    (repeat (first | with_reducible refine Below.setCell ?_ (by first | exact Nat.le_refl _ | (simp; done) | (simp; omega)) _ | with_reducible refine Below.alloc ?_ (by first | exact Nat.le_refl _ | (simp; done) | (simp; omega)) _ | with_reducible refine Below.drew ?_)); (with_reducible exact B1.out)
  · have HE : Hid (doN ln lp ⟨ak, aa, ab, m⟩ = netDoN ln lp ⟨ak, aa, ab, m⟩) := Lib.hid (by unfold doN; rw [hB]; rfl)
    have HB := Lib.hid hB
    clear hB
    go_enter Try.func20, Try.ntmps20
    go_wp2_with fail
    refine (NetOk_any A ln.length c P lp.length d ln lp _ ?_ ?_).mono ?_
    · exact (((HL.out.alloc (Nat.le_refl _) _).alloc (by simp) _).alloc (by simp; omega) _).more (by simp; omega)
    · exact (((HP.out.alloc (Nat.le_refl _) _).alloc (by simp) _).alloc (by simp; omega) _).more (by simp; omega)
    rw [HB.out]
    rintro e w1 ⟨rfl, hb⟩
    rw [HS3.out] at hb
    have hX1 : Blk w1 w.heap.size 27 #[.slice A ln.length c, .slice P lp.length d] := (((show Blk (w.alloc _) w.heap.size _ _ from heap_alloc_new w _).alloc _).alloc _).below hb (by omega)
    have hY1 : Blk w1 (w.heap.size + 1) 51 #[.int .i64 ak, .int .i64 aa, .int .i64 ab, .int .i64 m.k, .int .i64 m.r, .int .i64 m.v, .int .i64 m.p, .int .i64 m.f] := by
      have h := heap_alloc_new (w.alloc (.cells #[.slice A ln.length c, .slice P lp.length d] 27)) (.cells #[.int .i64 ak, .int .i64 aa, .int .i64 ab, .int .i64 m.k, .int .i64 m.r, .int .i64 m.v, .int .i64 m.p, .int .i64 m.f] 51)
      rw [World.size_alloc] at h
      exact ((show Blk _ _ _ _ from h).alloc _).below hb (by omega)
    have hR1 : Blk w1 (w.heap.size + 1 + 1) 27 #[.slice none 0 0, .slice none 0 0] := (blk_alloc3 w (.cells #[.slice A ln.length c, .slice P lp.length d] 27) (.cells #[.int .i64 ak, .int .i64 aa, .int .i64 ab, .int .i64 m.k, .int .i64 m.r, .int .i64 m.v, .int .i64 m.p, .int .i64 m.f] 51) #[.slice none 0 0, .slice none 0 0] 27).below hb (by omega)
    have hs1 := hb.size
    rw [HS3.out] at hs1
    have B1 : Hid (Below w.heap.size w w1) := Lib.hid ((((Below.refl _ _).alloc (Nat.le_refl _) _).alloc (by simp) _).alloc (by simp; omega) _ |>.trans (hb.mono (by omega)))
    clear hb
    have HR1 := Lib.hid hR1
    have cex := hX1.cell
    have cey := hY1.cell
    have lbx := hX1.lt
    have lby := hY1.lt
    clear hR1 hX1 hY1
    go_wp2_with fail
    refine (netDo_any A c P d ln lp ak aa ab m _ ((HL.out.below B1.out (Nat.le_refl _)).more B1.out.size) ((HP.out.below B1.out (Nat.le_refl _)).more B1.out.size) HB.out).mono ?_
    rintro e w2 ⟨A2, c2, P2, d2, m1, m2, rfl, hin, hb⟩
    have HR2 := Lib.hid (HR1.out.below hb HR1.out.lt)
    have B2 := Lib.hid (B1.out.trans (hb.mono B1.out.size))
    have HIN := Lib.hid hin
    clear hb hin cex cey lbx lby HR1
    have cer := HR2.out.cell
    have fzr := HR2.out.frozen
    have HQ : Hid (doN ln lp ⟨ak, aa, ab, m⟩ = ((netDoN ln lp ⟨ak, aa, ab, m⟩).1, (netDoN ln lp ⟨ak, aa, ab, m⟩).2.1, (netDoN ln lp ⟨ak, aa, ab, m⟩).2.2)) := Lib.hid HE.out
    clear HE
    generalize netDoN ln lp ⟨ak, aa, ab, m⟩ = r at *
    go_wp2_with fail
    refine bodyPost_ret (v := .tuple #[.agg #[.slice A2 r.1.length c2, .slice P2 r.2.1.length d2], .bool r.2.2]) (by simp [results, Try.results20, go_sem, cer]) rfl ?_
    obtain ⟨k1, k2, k3, k4, k5⟩ := HIN.out
    refine NetDid.mk HQ.out rfl rfl (NetIn.close (w := w2) (lo := w1.heap.size) (m1 := m1) (m2 := m2) (R := w.heap.size + 1 + 1) k4 k5 (by (repeat (first | with_reducible refine Chg.setCell ?_ (by first | exact Nat.le_refl _ | (simp; done) | (simp; omega)) (by first | (simp; done) | (simp; omega)) _ | with_reducible refine Chg.alloc ?_ _ | with_reducible refine Chg.drew ?_)); (with_reducible exact Chg.refl _ _ _)) (by omega) (by omega) k1 k2 k3) ?_
    (repeat (first | with_reducible refine Below.setCell ?_ (by first | exact Nat.le_refl _ | (simp; done) | (simp; omega)) _ | with_reducible refine Below.alloc ?_ (by first | exact Nat.le_refl _ | (simp; done) | (simp; omega)) _ | with_reducible refine Below.drew ?_)); (with_reducible exact B2.out)
/-! ### the whole play -/
def naC (a : ActD) : List Value := [.int .i64 a.k, .int .i64 a.a, .int .i64 a.b, .int .i64 a.m.k, .int .i64 a.m.r, .int .i64 a.m.v, .int .i64 a.m.p, .int .i64 a.m.f]
theorem naC_len (a : ActD) : (naC a).length = 8 := rfl
theorem na_cells {w : World} {B : Nat} {A : Option Addr} {n c : Nat} {l : List ActD} (h : RdL naC 8 w B A n c l) {k : Nat} (hk : k < n) :
    ∃ b off a, A = some ⟨b, off, none⟩ ∧ b < B ∧ l[k]? = some a ∧ w.cell? ⟨b, off + k * 8, none⟩ = some (.int .i64 a.k) ∧ w.cell? ⟨b, off + k * 8 + 1, none⟩ = some (.int .i64 a.a) ∧ w.cell? ⟨b, off + k * 8 + 2, none⟩ = some (.int .i64 a.b) ∧ w.cell? ⟨b, off + k * 8 + 3, none⟩ = some (.int .i64 a.m.k) ∧
      w.cell? ⟨b, off + k * 8 + 4, none⟩ = some (.int .i64 a.m.r) ∧ w.cell? ⟨b, off + k * 8 + 5, none⟩ = some (.int .i64 a.m.v) ∧ w.cell? ⟨b, off + k * 8 + 6, none⟩ = some (.int .i64 a.m.p) ∧ w.cell? ⟨b, off + k * 8 + 7, none⟩ = some (.int .i64 a.m.f) := by
  obtain ⟨b, off, p, e, hb, hp, hc⟩ := h.at_ naC_len hk
  exact ⟨b, off, p, e, hb, hp, hc 0 (by omega), hc 1 (by omega), hc 2 (by omega), hc 3 (by omega), hc 4 (by omega), hc 5 (by omega), hc 6 (by omega), hc 7 (by omega)⟩
def playN (l : List ActD) : (List NodeD × List NMsgD) × Nat := if 400 < l.length then (([], []), 0) else playTo l
theorem playTo_next {l : List ActD} {k : Nat} {a : ActD} (h : l[k]? = some a) : playTo (l.take (k + 1)) = playStep (playTo (l.take k)) a := by
  unfold playTo
  rw [List.take_add_one, h]
  simp
theorem playTo_le (l : List ActD) : (playTo l).2 ≤ l.length := by
  have main : ∀ (l : List ActD) (x : (List NodeD × List NMsgD) × Nat), (l.foldl playStep x).2 ≤ x.2 + l.length := by
    intro l
    induction l with
    | nil => intro x; simp
    | cons a l ih =>
      intro x
      have h := ih (playStep x a)
      rw [List.foldl_cons, List.length_cons]
      have : (playStep x a).2 ≤ x.2 + 1 := by unfold playStep; dsimp only; split <;> omega
      omega
  have := main l ((newN, []), 0)
  unfold playTo
  omega
def Played (r : (List NodeD × List NMsgD) × Nat) (w : World) (e : Ending) (w' : World) : Prop :=
  ∃ A c P d m1 m2, e = .returned (.tuple #[.agg #[.slice A r.1.1.length c, .slice P r.1.2.length d], .int .i64 (r.2 : Int)]) ∧ NetIn w' w.heap.size m1 m2 A c P d r.1.1 r.1.2 ∧ Below w.heap.size w w'
theorem NetIn.chg {w w' : World} {lo m1 m2 a b c d : Nat} {A P : Option Addr} {ln : List NodeD} {lp : List NMsgD} (h : NetIn w lo m1 m2 A c P d ln lp) (hc : Chg a b w w') (hb : b ≤ lo) : NetIn w' lo m1 m2 A c P d ln lp :=
  ⟨h.h1, h.h2, Nat.le_trans h.h3 hc.size, h.nodes.chg hc (.inr (by have := h.h1; omega)), PoolIn.chg h.pool hc (.inr hb) (by have := h.h1; have := h.h2; omega)⟩
theorem NetIn.lower {w : World} {lo lo' m1 m2 c d : Nat} {A P : Option Addr} {ln : List NodeD} {lp : List NMsgD} (h : NetIn w lo m1 m2 A c P d ln lp) (hl : lo' ≤ lo) : NetIn w lo' m1 m2 A c P d ln lp :=
  ⟨by have := h.h1; omega, h.h2, h.h3, h.nodes, h.pool.elim (fun h => .inl (h.wide hl (Nat.le_refl _))) .inr⟩
theorem NetIn.rdn {w : World} {lo m1 m2 c d : Nat} {A P : Option Addr} {ln : List NodeD} {lp : List NMsgD} (h : NetIn w lo m1 m2 A c P d ln lp) : NodesRd w w.heap.size A ln.length c ln := h.nodes.rd.more h.h3
theorem NetIn.rdp {w : World} {lo m1 m2 c d : Nat} {A P : Option Addr} {ln : List NodeD} {lp : List NMsgD} (h : NetIn w lo m1 m2 A c P d ln lp) : RdL msgC 5 w w.heap.size P lp.length d lp := PoolIn.rd h.pool (by have := h.h2; have := h.h3; omega)
theorem NetIn.below {w w' : World} {lo m1 m2 c d : Nat} {A P : Option Addr} {ln : List NodeD} {lp : List NMsgD} (h : NetIn w lo m1 m2 A c P d ln lp) (hb : Below w.heap.size w w') : NetIn w' lo m1 m2 A c P d ln lp :=
  ⟨h.h1, h.h2, Nat.le_trans h.h3 hb.size, (h.nodes.chg (Chg.of_below (lo := 0) (hi := 0) hb) (.inr (Nat.zero_le _))), PoolIn.below h.pool hb (by have := h.h2; have := h.h3; omega)⟩

set_option maxRecDepth 100000 in
set_option maxHeartbeats 4000000 in
theorem NetPlay_any (A : Option Addr) (n c : Nat) (la : List ActD) (w : World) (hl : RdL naC 8 w w.heap.size A n c la) :
    Calls Try.prog 10 #[.slice A n c] w (Played (playN la) w) := by
  obtain rfl : la.length = n := hl.1
  have hn := hl.le
  have HL := Lib.hid hl
  clear hl
  by_cases h4 : 400 < la.length
  · have HE : Hid (playN la = (([], []), 0)) := Lib.hid (by unfold playN; rw [if_pos h4])
    go_enter Try.func10, Try.ntmps10
    go_wp2_with fail
    refine bodyPost_ret (v := .tuple #[.agg #[.slice none 0 0, .slice none 0 0], .int .i64 0]) (by simp [results, Try.results10, go_sem]) rfl ?_
    rw [HE.out]
    refine ⟨none, 0, none, 0, w.heap.size + 1, w.heap.size + 1, rfl, NetIn.close (w := w.alloc (.cells #[.slice none 0 0, .slice none 0 0] 27)) (lo := w.heap.size + 1) (R := w.heap.size) (NodesOwn.nil _ _ _) (.inl (msgs_nil _ _ _)) (by first | exact Chg.refl _ _ _ | ((repeat (first | with_reducible refine Chg.setCell ?_ (by first | exact Nat.le_refl _ | (simp; done) | (simp; omega)) (by first | (simp; done) | (simp; omega)) _ | with_reducible refine Chg.alloc ?_ _ | with_reducible refine Chg.drew ?_)); (with_reducible exact Chg.refl _ _ _))) (by omega) (by omega) (Nat.le_refl _) (Nat.le_refl _) (by simp), ?_⟩
    exact (by repeat (first | exact Below.refl _ _ | assumption | refine Below.drew ?_ | refine belN ?_ _ | refine Below.alloc ?_ (by first | exact Nat.le_refl _ | (simp; done) | (simp; omega) | omega) _ | refine Below.setCell ?_ (by first | exact Nat.le_refl _ | (simp; done) | (simp; omega) | omega) _ | refine Below.trans ?_ (Below.mono (by assumption) (by first | exact Nat.le_refl _ | (simp; done) | (simp; omega) | omega))))
  have HE : Hid (playN la = playTo la) := Lib.hid (by unfold playN; rw [if_neg h4])
  have h4' : la.length ≤ 400 := by omega
  go_enter Try.func10, Try.ntmps10
  go_wp2_with fail
  refine (NetNew_any _).mono ?_
  rintro e w1 ⟨A1, c1, rfl, ho, hb⟩
  have hR1 : Blk w1 w.heap.size 27 #[.slice none 0 0, .slice none 0 0] := (show Blk (w.alloc _) w.heap.size _ _ from heap_alloc_new w _).below hb (by simp)
  have hs1 := hb.size
  have B1 : Hid (Below w.heap.size w w1) := Lib.hid (((Below.refl _ _).alloc (Nat.le_refl _) _).trans (hb.mono (by simp)))
  simp only [World.size_alloc] at hs1 ho
  go_upto_region 4 with fail
  obtain ⟨w2, hw2⟩ : ∃ q, q = w1.alloc (.cells #[.slice A1 3 c1, .slice none 0 0] 27) := ⟨_, rfl⟩
  rw [← hw2]
  have hb2 : Below w1.heap.size w1 w2 := by rw [hw2]; exact (Below.refl _ _).alloc (Nat.le_refl _) _
  have HX2 : Hid (Blk w2 w1.heap.size 27 #[.slice A1 newN.length c1, .slice none ([] : List NMsgD).length 0]) := Lib.hid (by rw [hw2]; exact heap_alloc_new w1 _)
  have HR2 := Lib.hid (hR1.below hb2 hR1.lt)
  have B2 : Hid (Below w.heap.size w w2) := Lib.hid (B1.out.trans (hb2.mono (by omega)))
  have hs2 := hb2.size
  have HI2 : Hid (NetIn w2 (w.heap.size + 1) (w.heap.size + 1) w1.heap.size A1 c1 none 0 newN []) := Lib.hid ⟨Nat.le_refl _, hs1, hs2, ho.chg (Chg.of_below (lo := 0) (hi := 0) hb2) (.inr (Nat.zero_le _)), .inl (msgs_nil _ _ _)⟩
  clear hw2 hb2 hb ho hR1
  go_wp2_with fail
  go_loopw [5, 17] (fun cn i wr => ∃ (k m1 m2 : Nat) (A' : Option Addr) (c' : Nat) (P' : Option Addr) (d' : Nat), k ≤ la.length ∧ i = .int .i64 k ∧ cn = .int .i64 ((playTo (la.take k)).2 : Int) ∧ NetIn wr (w.heap.size + 1) m1 m2 A' c' P' d' (playTo (la.take k)).1.1 (playTo (la.take k)).1.2 ∧
      Blk wr w1.heap.size 27 #[.slice A' (playTo (la.take k)).1.1.length c', .slice P' (playTo (la.take k)).1.2.length d'] ∧ Blk wr w.heap.size 27 #[.slice none 0 0, .slice none 0 0] ∧ Below w.heap.size w wr) (fun _ i _ => la.length - (intOf i).toNat)
  case atStart => exact ⟨0, _, _, A1, c1, none, 0, by omega, rfl, rfl, HI2.out, HX2.out, HR2.out, B2.out⟩
  case round =>
    obtain ⟨k, m1, m2, A', c', P', d', hk, rfl, rfl, hin, hx, hr, hb⟩ := hrel
    have HIN := Lib.hid hin
    have HX := Lib.hid hx
    have HR := Lib.hid hr
    have HB := Lib.hid hb
    have hnb := (netI_play (la.take k)).netB
    have HNB := Lib.hid hnb
    have hcnt := playTo_le (la.take k)
    rw [List.length_take] at hcnt
    have hlx := hx.lt
    have hsw := hb.size
    clear hin hx hr hb hnb
    by_cases hkn : k < la.length
    · obtain ⟨b, off, a, rfl, hb1, ha, z0, z1, z2, z3, z4, z5, z6, z7⟩ := na_cells (HL.out.below HB.out (Nat.le_refl _)) hkn
      have hbw : b < wr.heap.size := by omega
      have HT := Lib.hid (playTo_next ha)
      clear ha
      generalize playTo (la.take k) = x at *
      obtain ⟨⟨ln, lp⟩, cnt⟩ := x
      dsimp only at HIN HX HNB hcnt ⊢
      go_upto_region 8 with fail
      obtain ⟨w3, hw3⟩ : ∃ q, q = wr.alloc (.cells #[.int .i64 a.k, .int .i64 a.a, .int .i64 a.b, .int .i64 a.m.k, .int .i64 a.m.r, .int .i64 a.m.v, .int .i64 a.m.p, .int .i64 a.m.f] 51) := ⟨_, rfl⟩
      rw [← hw3]
      have hb3 : Below wr.heap.size wr w3 := by rw [hw3]; exact (Below.refl _ _).alloc (Nat.le_refl _) _
      have hY3 : Blk w3 wr.heap.size 51 #[.int .i64 a.k, .int .i64 a.a, .int .i64 a.b, .int .i64 a.m.k, .int .i64 a.m.r, .int .i64 a.m.v, .int .i64 a.m.p, .int .i64 a.m.f] := by rw [hw3]; exact heap_alloc_new wr _
      clear hw3 z0 z1 z2 z3 z4 z5 z6 z7
      have HX3 := Lib.hid (HX.out.below hb3 hlx)
      have HR3 := Lib.hid (HR.out.below hb3 (by omega))
      have HIN3 := Lib.hid (HIN.out.below hb3)
      have B3 := Lib.hid (HB.out.trans (hb3.mono hsw))
      have hs3 := hb3.size
      have cey := hY3.cell
      have lby := hY3.lt
      have cex := HX3.out.cell
      have lbx := HX3.out.lt
      clear hb3 hY3
      go_wp2_with fail
      refine (netDo_any A' c' P' d' ln lp a.k a.a a.b a.m _ HIN3.out.rdn HIN3.out.rdp HNB.out).mono ?_
      rintro e w4 ⟨A4, c4, P4, d4, n1, n2, rfl, hin, hb⟩
      have HX4 := Lib.hid (HX3.out.below hb lbx)
      have HR4 := Lib.hid (HR3.out.below hb (by omega))
      have B4 := Lib.hid (B3.out.trans (hb.mono (by omega)))
      have hs4 := hb.size
      have HIN4 := Lib.hid hin
      clear hin hb cey lby cex lbx
      obtain ⟨r, hrr⟩ : ∃ r, netDoN ln lp a = r := ⟨_, rfl⟩
      have HIN5 : Hid (NetIn w4 w3.heap.size n1 n2 A4 c4 P4 d4 r.1 r.2.1) := Lib.hid (by rw [← hrr]; exact HIN4.out)
      have HSTEP : Hid (playTo (la.take (k + 1)) = ((r.1, r.2.1), if r.2.2 = true then cnt + 1 else cnt)) := Lib.hid (by rw [HT.out]; unfold playStep; dsimp only; rw [hrr])
      clear HIN4 HT
      rw [show netDoN ln lp ⟨a.k, a.a, a.b, a.m⟩ = r from hrr]
      clear hrr
      obtain ⟨ln2, lp2, ok⟩ := r
      dsimp only at HIN5 HSTEP ⊢
      go_upto_region 9 with fail
      obtain ⟨w5, hw5⟩ : ∃ q, q = w4.alloc (.cells #[.slice A4 ln2.length c4, .slice P4 lp2.length d4] 27) := ⟨_, rfl⟩
      rw [← hw5]
      have hb5 : Below w4.heap.size w4 w5 := by rw [hw5]; exact (Below.refl _ _).alloc (Nat.le_refl _) _
      have hZ5 : Blk w5 w4.heap.size 27 #[.slice A4 ln2.length c4, .slice P4 lp2.length d4] := by rw [hw5]; exact heap_alloc_new w4 _
      clear hw5
      have HX5 := Lib.hid (HX4.out.below hb5 (by omega))
      have HR5 := Lib.hid (HR4.out.below hb5 (by omega))
      have HIN6 := Lib.hid (HIN5.out.below hb5)
      have B5 := Lib.hid (B4.out.trans (hb5.mono (by omega)))
      have hs5 := hb5.size
      have cez := hZ5.cell
      have lbz := hZ5.lt
      have cex := HX5.out.cell
      have fzx := HX5.out.frozen
      have lbx := HX5.out.lt
      clear hb5 hZ5
      have D : Chg w1.heap.size (w1.heap.size + 1) w5 ((w5.setCell ⟨w1.heap.size, 0, none⟩ (.slice A4 ln2.length c4)).setCell ⟨w1.heap.size, 1, none⟩ (.slice P4 lp2.length d4)) := by (repeat (first | with_reducible refine Chg.setCell ?_ (by first | exact Nat.le_refl _ | (simp; done) | (simp; omega)) (by first | (simp; done) | (simp; omega)) _ | with_reducible refine Chg.alloc ?_ _ | with_reducible refine Chg.drew ?_)); (with_reducible exact Chg.refl _ _ _)
      have HD := Lib.hid D
      have HXN : Hid (Blk ((w5.setCell ⟨w1.heap.size, 0, none⟩ (.slice A4 ln2.length c4)).setCell ⟨w1.heap.size, 1, none⟩ (.slice P4 lp2.length d4)) w1.heap.size 27 #[.slice A4 ln2.length c4, .slice P4 lp2.length d4]) := Lib.hid (by
        have h := (HX5.out.set_ 0 (.slice A4 ln2.length c4)).set_ 1 (.slice P4 lp2.length d4)
        simpa using h)
      have HRN := Lib.hid (show Blk _ w.heap.size _ _ from (D.block _ HR5.out.lt (.inl (by omega))).trans HR5.out)
      have HIN7 := Lib.hid ((HIN6.out.chg D (by omega)).lower (show w.heap.size + 1 ≤ w3.heap.size by omega))
      have BN := Lib.hid (B5.out.trans (D.below (B := w.heap.size) (by omega) (by omega)))
      clear D
      cases ok
      · have HS2 : Hid (playTo (la.take (k + 1)) = ((ln2, lp2), cnt)) := Lib.hid HSTEP.out
        go_wp2_with fail
        go_roundw
        case rel => exact ⟨k + 1, n1, n2, A4, c4, P4, d4, by omega, by go_num, by rw [HS2.out], by rw [HS2.out]; exact HIN7.out, by rw [HS2.out]; exact HXN.out, HRN.out, BN.out⟩
        case measure => simp [intOf]; omega
      · have HS2 : Hid (playTo (la.take (k + 1)) = ((ln2, lp2), cnt + 1)) := Lib.hid HSTEP.out
        go_wp2_with fail
        go_roundw
        case rel => exact ⟨k + 1, n1, n2, A4, c4, P4, d4, by omega, by go_num, by rw [HS2.out]; go_num, by rw [HS2.out]; exact HIN7.out, by rw [HS2.out]; exact HXN.out, HRN.out, BN.out⟩
        case measure => simp [intOf]; omega
    · obtain rfl : k = la.length := by omega
      rw [List.take_length] at HIN HX hcnt ⊢
      have cex := HX.out.cell
      have cer := HR.out.cell
      have fzr := HR.out.frozen
      have lbr := HR.out.lt
      generalize playTo la = x at *
      go_wp2_with fail
      refine bodyPost_ret (v := .tuple #[.agg #[.slice A' x.1.1.length c', .slice P' x.1.2.length d'], .int .i64 (x.2 : Int)]) (by simp [results, Try.results10, go_sem, cer]) rfl ?_
      rw [HE.out]
      refine ⟨A', c', P', d', m1, m2, rfl, (HIN.out.chg (a := w.heap.size) (b := w.heap.size + 1) (by (repeat (first | with_reducible refine Chg.setCell ?_ (by first | exact Nat.le_refl _ | (simp; done) | (simp; omega)) (by first | (simp; done) | (simp; omega)) _ | with_reducible refine Chg.alloc ?_ _ | with_reducible refine Chg.drew ?_)); (with_reducible exact Chg.refl _ _ _)) (Nat.le_refl _)).lower (by omega), ?_⟩
      (repeat (first | with_reducible refine Below.setCell ?_ (by first | exact Nat.le_refl _ | (simp; done) | (simp; omega)) _ | with_reducible refine Below.alloc ?_ (by first | exact Nat.le_refl _ | (simp; done) | (simp; omega)) _ | with_reducible refine Below.drew ?_)); (with_reducible exact HB.out)
end Go.Proofs.Ytjgaelnonacdkaa
namespace Go.Proofs.Ytjgaelnonacdkaa
open Go.RowKit

theorem toNetAct_any (k' : Int) (a' : Int) (b' : Int) (mk' : Int) (mr' : Int) (mv' : Int) (mp' : Int) (mf' : Int) (w : World) :
    Calls Try.prog 19 #[.agg #[.int .i64 k', .int .i64 a', .int .i64 b', .int .i64 mk', .int .i64 mr', .int .i64 mv', .int .i64 mp', .int .i64 mf']] w fun e w' => e = .returned (.agg #[.int .i64 k', .int .i64 a', .int .i64 b', .int .i64 mk', .int .i64 mr', .int .i64 mv', .int .i64 mp', .int .i64 mf']) ∧ Below w.heap.size w w' := by
  go_enter Try.func19, Try.ntmps19
  go_wp2_with fail
  refine (toNMsg_any _ _ _ _ _ _).mono ?_
  rintro e w1 ⟨rfl, hb⟩
  obtain ⟨hc, hf, hz⟩ := bcell hb
  have HW : Hid (Below w.heap.size w w1) := (by repeat (first | exact Below.refl _ _ | assumption | refine Below.drew ?_ | refine belN ?_ _ | refine Below.alloc ?_ (by first | exact Nat.le_refl _ | (simp; done) | (simp; omega) | omega) _ | refine Below.setCell ?_ (by first | exact Nat.le_refl _ | (simp; done) | (simp; omega) | omega) _ | refine Below.trans ?_ (Below.mono (by assumption) (by first | exact Nat.le_refl _ | (simp; done) | (simp; omega) | omega))))
  have hR : Blk w1 (w.heap.size + 1) 51 #[.int .i64 0, .int .i64 0, .int .i64 0, .int .i64 0, .int .i64 0, .int .i64 0, .int .i64 0, .int .i64 0] := by
    have h := heap_alloc_new (w.alloc (.cells #[.int .i64 k', .int .i64 a', .int .i64 b', .int .i64 mk', .int .i64 mr', .int .i64 mv', .int .i64 mp', .int .i64 mf'] 44)) (.cells #[.int .i64 0, .int .i64 0, .int .i64 0, .int .i64 0, .int .i64 0, .int .i64 0, .int .i64 0, .int .i64 0] 51)
    rw [World.size_alloc] at h
    exact ((show Blk _ _ _ _ from h).alloc _).below hb (by first | (simp; done) | (simp; omega))
  clear hb
  have r0 := hR.cell
  clear hR
  simp only [World.size_alloc] at hz
  have hz2 : w.heap.size + 2 < w1.heap.size := by omega
  go_wp2_with fail
  refine bodyPost_ret (v := .agg #[.int .i64 k', .int .i64 a', .int .i64 b', .int .i64 mk', .int .i64 mr', .int .i64 mv', .int .i64 mp', .int .i64 mf']) (by simp [results, Try.results19, go_sem, r0]) rfl ⟨rfl, ?_⟩
  (repeat (first | with_reducible refine Below.setCell ?_ (by first | exact Nat.le_refl _ | (simp; done) | (simp; omega)) _ | with_reducible refine Below.alloc ?_ (by first | exact Nat.le_refl _ | (simp; done) | (simp; omega)) _ | with_reducible refine Below.drew ?_)); (with_reducible exact HW.out)

theorem infoNetAct : (Try.prog.info? 51).map (fun i => (i.zero, i.size, i.bytes)) = some (some (.agg #[.int .i64 0, .int .i64 0, .int .i64 0, .int .i64 0, .int .i64 0, .int .i64 0, .int .i64 0, .int .i64 0]), 8, 64) := by kernel_rfl

set_option maxHeartbeats 800000 in
theorem toNetActS_any (A : Option Addr) (n c : Nat) (l : List ActD) (w : World) (hl : RdL naC 8 w w.heap.size A n c l) (hn : n ≤ 1048576) :
    Calls Try.prog 9 #[.slice A n c] w (SlOut naC 8 51 n l w) := by
  obtain ⟨i0, hi, hz0, hz1, hz2⟩ := info_parts infoNetAct
  obtain ⟨w1, hrun, hown, hg⟩ := run_make_full (P := Try.prog) w w.heap.size 30 51 i0 _ 8 Try.underlying30 hi hz0 hz1 .i64 .i64 n (by rw [hz2]; omega) (by unfold maxLen; omega) (Nat.le_refl _)
  have hb1 : Below w.heap.size w w1 := (Below.refl _ _).grown hg (Nat.le_refl _) (fun k hk => by cases hk)
  have HL := Lib.hid hl
  have HO := Lib.hid (Laid.start naC 8 l n hown)
  have HB := Lib.hid hb1
  clear hl hown hb1 hg hi hz0 hz1 hz2
  go_enter Try.func9, Try.ntmps9
  go_wp2_with fail
  clear hrun
  go_loopw [4] (fun i wr => ∃ k : Nat, k ≤ n ∧ i = .int .i64 k ∧ Below w.heap.size w wr ∧ w.heap.size < wr.heap.size ∧ Laid naC 8 l k n wr w.heap.size 51) (fun i _ => n - (intOf i).toNat)
  case atStart =>
    obtain ⟨cur, h1, _⟩ := HO.out
    exact ⟨0, by omega, rfl, HB.out, h1.lt, HO.out⟩
  case round =>
    obtain ⟨k, hk, rfl, hb, hz, cur, h1, h2, h3⟩ := hrel
    have H1 := Lib.hid h1; have H2 := Lib.hid h2; have H3 := Lib.hid h3
    clear h1 h2 h3
    by_cases hkn : k < n
    · obtain ⟨b, off, p, rfl, hb1, hp, c0, c1, c2, c3, c4, c5, c6, c7⟩ := na_cells (HL.out.below hb (Nat.le_refl _)) hkn
      have HP := Lib.hid hp; clear hp
      have hsz : k * 8 + 8 ≤ cur.size := by rw [H2.out]; have := Nat.mul_le_mul_right 8 hkn; omega
      go_wp2_with (go_at_call 19; (with_reducible refine (toNetAct_any _ _ _ _ _ _ _ _ _).mono ?_); rintro e w2 ⟨rfl, hb2⟩; have HQ := Lib.hid (H1.out.below hb2 hz); have q0 := HQ.out.has (k * 8) (by omega); have q1 := HQ.out.has (k * 8 + 1) (by omega); have q2 := HQ.out.has (k * 8 + 2) (by omega); have q3 := HQ.out.has (k * 8 + 3) (by omega); have q4 := HQ.out.has (k * 8 + 4) (by omega); have q5 := HQ.out.has (k * 8 + 5) (by omega); have q6 := HQ.out.has (k * 8 + 6) (by omega); have q7 := HQ.out.has (k * 8 + 7) (by omega); have qf := HQ.out.frozen)
      have hz2 := hb2.size
      go_roundw
      case rel => exact ⟨k + 1, by omega, by go_num, ((((((((hb.trans (hb2.mono (Nat.le_of_lt hz))).setCell (Nat.le_refl _) _).setCell (Nat.le_refl _) _).setCell (Nat.le_refl _) _).setCell (Nat.le_refl _) _).setCell (Nat.le_refl _) _).setCell (Nat.le_refl _) _).setCell (Nat.le_refl _) _).setCell (Nat.le_refl _) _, by simp; omega,
        Laid.next naC_len HP.out ((((((((HQ.out.set_ _ _).set_ _ _).set_ _ _).set_ _ _).set_ _ _).set_ _ _).set_ _ _).set_ _ _) (by simpa using H2.out) (fun j hj => by simp [Array.getElem?_setIfInBounds]; rw [if_neg (by omega), if_neg (by omega), if_neg (by omega), if_neg (by omega), if_neg (by omega), if_neg (by omega), if_neg (by omega), if_neg (by omega)]; exact H3.out j hj)
          (fun j hj => by rcases (by omega : j = 0 ∨ j = 1 ∨ j = 2 ∨ j = 3 ∨ j = 4 ∨ j = 5 ∨ j = 6 ∨ j = 7) with rfl | rfl | rfl | rfl | rfl | rfl | rfl | rfl <;> simp [Array.getElem?_setIfInBounds, naC] <;> omega)⟩
      case measure => simp [intOf]; omega
    · obtain rfl : k = n := by omega
      go_wp2
      go_ret
      exact ⟨_, rfl, Laid.done naC_len HL.out.1 (by unfold maxLen; omega) (Nat.le_refl _) ⟨cur, H1.out, H2.out, H3.out⟩, hb⟩

theorem eqNetAct_same (k' : Int) (a' : Int) (b' : Int) (mk' : Int) (mr' : Int) (mv' : Int) (mp' : Int) (mf' : Int) (w : World) :
    Calls Try.prog 38 #[.agg #[.int .i64 k', .int .i64 a', .int .i64 b', .int .i64 mk', .int .i64 mr', .int .i64 mv', .int .i64 mp', .int .i64 mf'], .agg #[.int .i64 k', .int .i64 a', .int .i64 b', .int .i64 mk', .int .i64 mr', .int .i64 mv', .int .i64 mp', .int .i64 mf']] w fun e w' => e = .returned (.bool true) ∧ Below w.heap.size w w' := by
  go_enter Try.func38, Try.ntmps38
  go_wp2_with fail
  refine (eqNMsg_same _ _ _ _ _ _).mono ?_
  rintro e w1 ⟨rfl, hb⟩
  have HW : Hid (Below w.heap.size w w1) := (by repeat (first | exact Below.refl _ _ | assumption | refine Below.drew ?_ | refine belN ?_ _ | refine Below.alloc ?_ (by first | exact Nat.le_refl _ | (simp; done) | (simp; omega) | omega) _ | refine Below.setCell ?_ (by first | exact Nat.le_refl _ | (simp; done) | (simp; omega) | omega) _ | refine Below.trans ?_ (Below.mono (by assumption) (by first | exact Nat.le_refl _ | (simp; done) | (simp; omega) | omega))))
  clear hb
  go_wp2_with fail
  go_ret
  exact ⟨rfl, HW.out⟩

set_option maxHeartbeats 800000 in
theorem eqNetActS_same (A : Option Addr) (n c : Nat) (A' : Option Addr) (c' : Nat) (l : List ActD) (w : World) (hl : RdL naC 8 w w.heap.size A n c l) (hl' : RdL naC 8 w w.heap.size A' n c' l) :
    Calls Try.prog 12 #[.slice A n c, .slice A' n c'] w fun e w' => e = .returned (.bool true) ∧ Below w.heap.size w w' := by
  have hn := hl.le
  have HL := Lib.hid hl
  have HL' := Lib.hid hl'
  clear hl hl'
  go_enter Try.func12, Try.ntmps12
  go_wp2_with fail
  go_loopw [5] (fun i wr => ∃ k : Nat, k ≤ n ∧ i = .int .i64 k ∧ Below w.heap.size w wr) (fun i _ => n - (intOf i).toNat)
  case atStart => exact ⟨0, by omega, rfl, Below.refl _ _⟩
  case round =>
    obtain ⟨k, hk, rfl, hb⟩ := hrel
    have hz := hb.size
    by_cases hkn : k < n
    · obtain ⟨b, off, p, rfl, hb1, hp, c0, c1, c2, c3, c4, c5, c6, c7⟩ := na_cells (HL.out.below hb (Nat.le_refl _)) hkn
      obtain ⟨b', off', p', rfl, hb1', hp', d0, d1, d2, d3, d4, d5, d6, d7⟩ := na_cells (HL'.out.below hb (Nat.le_refl _)) hkn
      obtain rfl : p = p' := by rw [hp] at hp'; injection hp'
      clear hp hp'
      have hlt : b < wr.heap.size := by omega
      have hlt' : b' < wr.heap.size := by omega
      go_wp2_with fail
      refine wp_region_below (by kernel_rfl) (by kernel_rfl) ?_
      repeat (first | go_big_quiet_skip | (go_big_quiet_want; go_big_quiet_op; first | go_big_quiet_on | (apply Exists.intro; refine ⟨fun w1 hC => ?_, ?_⟩; (focus (first | rfl | (go_at_call 38; exact quiet_below hC (eqNetAct_same _ _ _ _ _ _ _ _ _)) | (simp [(bcell hC).1, hlt, hlt', c0, c1, c2, c3, c4, c5, c6, c7, d0, d1, d2, d3, d4, d5, d6, d7]; done) | (simp [(bcell hC).1, hlt, hlt', c0, c1, c2, c3, c4, c5, c6, c7, d0, d1, d2, d3, d4, d5, d6, d7]; rfl))); go_big_quiet_on)))
      refine wpQuiet_nil ?_
      intro w2 hb2
      obtain ⟨hc2, hf2, hz2⟩ := bcell hb2
      go_wp2
      go_roundw
      case rel => exact ⟨k + 1, by omega, by go_num, hb.trans (hb2.mono hz)⟩
      case measure => simp [intOf]; omega
    · obtain rfl : k = n := by omega
      go_wp2
      go_ret
      exact ⟨rfl, hb⟩

theorem szNetActS_any (A : Option Addr) (n c : Nat) (left : Int) (w : World) (hn : n ≤ 9223372036854775807) (h0 : 0 ≤ left) (h1 : left ≤ 1048576) :
    Calls Try.prog 7 #[.slice A n c, .int .i64 left] w fun e w' => e = .returned (.int .i64 (if left < n then -1 else left - n)) ∧ w = w' := by
  by_cases hc : left < n
  · go_enter Try.func7, Try.ntmps7
    go_wp2
    go_ret
    exact ⟨rfl, rfl⟩
  · go_enter Try.func7, Try.ntmps7
    go_wp2
    go_ret
    exact ⟨rfl, rfl⟩
end Go.Proofs.Ytjgaelnonacdkaa
