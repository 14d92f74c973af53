/- A net of one's own that is turned in place; l17Pool of the reference. -/
import Derived.WalkKit
import Derived.WalkSpells
import Derived.WalkLawsBesides
import Derived.Lib.Hide
import Derived.Test.YtjgaelnonacdkaaMNetCopyS
import Derived.Test.YtjgaelnonacdkaaMRunCalls
namespace Go.Proofs.Ytjgaelnonacdkaa
open Go.RowKit

structure NetS (w : World) (lo hi : Nat) (A : Option Addr) (c : Nat) (P : Option Addr) (d : Nat) (ln : List NodeD) (lp : List NMsgD) : Prop where
  hl : lo ≤ hi
  hh : hi ≤ w.heap.size
  nodes : NodesX w lo hi A ln.length c ln (fun q => P = some ⟨q, 0, none⟩)
  pool : OwnL msgC 5 49 w lo hi P lp.length d lp
section
variable {w w' : World} {lo hi a b c d : Nat} {A P : Option Addr} {ln : List NodeD} {lp : List NMsgD}
theorem NetS.chg (h : NetS w lo hi A c P d ln lp) (hc : Chg a b w w') (hab : hi ≤ a ∨ b ≤ lo) : NetS w' lo hi A c P d ln lp :=
  ⟨h.hl, Nat.le_trans h.hh hc.size, h.nodes.keep (Nat.le_refl _) fun q h1 h2 _ => hc.block q (by have := h.hh; omega) (by omega), h.pool.chg hc hab⟩
theorem NetS.below (h : NetS w lo hi A c P d ln lp) (hb : Below w.heap.size w w') : NetS w' lo hi A c P d ln lp := h.chg (Chg.of_below (lo := 0) (hi := 0) hb) (.inr (Nat.zero_le _))
theorem NetS.rdn (h : NetS w lo hi A c P d ln lp) : NodesRd w w.heap.size A ln.length c ln := h.nodes.own.rd.more h.hh
theorem NetS.rdp (h : NetS w lo hi A c P d ln lp) : RdL msgC 5 w w.heap.size P lp.length d lp := (h.pool.rd msgC_len).more h.hh
theorem NodesX.wide {lo' hi' n : Nat} {Q : Nat → Prop} (h : NodesX w lo hi A n c ln Q) (h1 : lo' ≤ lo) (h2 : hi ≤ hi') : NodesX w lo' hi' A n c ln Q := by
  obtain ⟨lv, p, q, r, s, t⟩ := h
  refine ⟨lv, p.wide h1 h2, q, fun i v hv => ?_, s, t⟩
  obtain ⟨x, e1, e2, e3⟩ := r i v hv
  exact ⟨x, e1, e2, e3.wide h1 h2⟩
theorem NetS.wide {lo' hi' : Nat} (h : NetS w lo hi A c P d ln lp) (h1 : lo' ≤ lo) (h2 : hi ≤ hi') (h3 : hi' ≤ w.heap.size) : NetS w lo' hi' A c P d ln lp :=
  ⟨by have := h.hl; omega, h3, h.nodes.wide h1 h2, h.pool.wide h1 h2⟩
theorem OwnL.at0 {g : Nat} (h : OwnL msgC 5 49 w lo hi P lp.length d lp) (hg : Value.ownBlock (.slice P lp.length d) = some g) : P = some ⟨g, 0, none⟩ := by
  obtain ⟨_, ⟨_, rfl, _⟩ | ⟨g', cur, rfl, _⟩⟩ := h
  · simp [Value.ownBlock] at hg
  · simp only [Value.ownBlock, Option.some.injEq] at hg
    rw [hg]
/-- the pool below the nodes -/
theorem NetS.of_low {m1 : Nat} (h1 : lo ≤ m1) (h2 : m1 ≤ w.heap.size) (hn : NodesOwn w m1 w.heap.size A ln.length c ln) (hp : OwnL msgC 5 49 w lo m1 P lp.length d lp) : NetS w lo w.heap.size A c P d ln lp :=
  ⟨by omega, Nat.le_refl _, ((NodesX.of hn).swap fun q h3 h4 e => by
    have := hp.block q (by rw [e]; rfl)
    omega).wide h1 (Nat.le_refl _), hp.wide (Nat.le_refl _) h2⟩
/-- another pool, from above -/
theorem NetS.fresh {P' : Option Addr} {d' p1 p2 : Nat} {lq : List NMsgD} (hnx : NodesX w lo hi A ln.length c ln (fun _ => False)) (hl : lo ≤ hi) (hp : OwnL msgC 5 49 w p1 p2 P' lq.length d' lq) (h1 : hi ≤ p1) (h2 : p1 ≤ p2) (h3 : p2 ≤ w.heap.size) : NetS w lo p2 A c P' d' ln lq :=
  ⟨by omega, h3, (hnx.swap fun q h4 h5 e => by
    have := hp.block q (by rw [e]; rfl)
    omega).wide (Nat.le_refl _) (by omega), hp.wide (by omega) (Nat.le_refl _)⟩
/-- a message more, where there is room or elsewhere -/
theorem NetS.app {v : Value} {m : NMsgD} {z : Nat} (h : NetS w lo hi A c P d ln lp) (hown : w'.ownsRow lo 49 5 v (lp.length + 1) (lp.flatMap msgC ++ msgC m)) (hg : w.grownBy w' (Value.ownBlock (.slice P lp.length d)))
    (hat : v.ownBlock = Value.ownBlock (.slice P lp.length d) ∨ v.ownBlock = some z) (hz : z = w.heap.size) :
    ∃ P' d', v = .slice P' (lp.length + 1) d' ∧ NetS w' lo w'.heap.size A c P' d' ln (lp ++ [m]) ∧ Chg lo hi w w' := by
  subst hz
  have e : lp.flatMap msgC ++ msgC m = (lp ++ [m]).flatMap msgC := by rw [List.flatMap_append]; simp
  rw [e] at hown
  obtain ⟨P', d', rfl, ho⟩ := OwnL.of_own (f := msgC) (n := lp.length + 1) (l := lp ++ [m]) (by simp) hown
  have ho' : OwnL msgC 5 49 w' lo w'.heap.size P' (lp ++ [m]).length d' (lp ++ [m]) := by simpa using ho
  have hs := hg.size
  have hhi := h.hh
  have hch : Chg lo hi w w' := grown_chg hg fun g e => h.pool.block g e
  refine ⟨P', d', rfl, ⟨by have := h.hl; omega, Nat.le_refl _, ?_, ho'⟩, hch⟩
  refine ((h.nodes.keep (Nat.le_refl _) fun q h1 h2 h3 => hg.block q (by omega) fun e2 => ?_).swap fun q h1 h2 e2 => ?_).wide (Nat.le_refl _) (by omega)
  · obtain ⟨cur, hb, _⟩ := h.pool.blk e2.symm
    exact h3 cur hb (h.pool.at0 e2.symm)
  · have e3 : Value.ownBlock (.slice P' (lp.length + 1) d') = some q := by rw [e2]; rfl
    rcases hat with h4 | h4
    · exact h.pool.at0 (h4 ▸ e3)
    · rw [e3] at h4
      simp only [Option.some.injEq] at h4
      omega
end

set_option maxRecDepth 100000 in
set_option maxHeartbeats 2000000 in
theorem l17Pool_any (P : Option Addr) (d : Nat) (lp : List NMsgD) (B : Option Addr) (e : Nat) (lo : List NMsgD) (z : Nat) (w : World) (hp : OwnL msgC 5 49 w z w.heap.size P lp.length d lp) (hm : RdL msgC 5 w z B lo.length e lo) (hz : z ≤ w.heap.size) (hl : lp.length ≤ 1000) (hlo : lo.length ≤ 3000) :
    Calls Try.prog 70 #[.slice P lp.length d, .slice B lo.length e] w fun r w' => ∃ P' d', r = .returned (.tuple #[.slice P' (addAll lp lo).length d', .bool (decide ((addAll lp lo).length ≤ 150))]) ∧ OwnL msgC 5 49 w' z w'.heap.size P' (addAll lp lo).length d' (addAll lp lo) ∧ Below z w w' := by
  obtain ⟨i0, hi, hz0, hz1, hz2⟩ := info_parts infoMsgS
  have HP := Lib.hid hp
  have HM := Lib.hid hm
  clear hp hm
  go_enter Try.func70, Try.ntmps70
  go_wp2_with fail
  go_loopw [0, 6] (fun o i wr => ∃ (k : Nat) (P' : Option Addr) (d' : Nat), k ≤ lo.length ∧ i = .int .i64 k ∧ o = .slice P' (addAll lp (lo.take k)).length d' ∧ OwnL msgC 5 49 wr z wr.heap.size P' (addAll lp (lo.take k)).length d' (addAll lp (lo.take k)) ∧ Below z w wr) (fun _ i _ => lo.length - (intOf i).toNat)
  case atStart => exact ⟨0, P, d, by omega, rfl, rfl, HP.out, Below.refl _ _⟩
  case round =>
    obtain ⟨k, P', d', hk, rfl, rfl, ho, hb⟩ := hrel
    have HO := Lib.hid ho
    have HB := Lib.hid hb
    have hsz := hb.size
    have hlen : (addAll lp (lo.take k)).length ≤ 4000 := by
      have h1 : ∀ (o p : List NMsgD), (addAll p o).length ≤ p.length + o.length := by
        intro o
        induction o with
        | nil => intro p; simp [addAll]
        | cons m o ih =>
          intro p
          have h := ih (addN p m)
          unfold addAll at h ⊢
          rw [List.foldl_cons, List.length_cons]
          have : (addN p m).length ≤ p.length + 1 := by unfold addN; split <;> simp
          omega
      have h2 := h1 (lo.take k) lp
      rw [List.length_take] at h2
      omega
    clear ho hb
    by_cases hkn : k < lo.length
    · obtain ⟨b, off, p, rfl, hb1, hpp, c0, c1, c2, c3, c4⟩ := msg_cells (HM.out.below HB.out (Nat.le_refl _)) hkn
      have HTK : Hid (addAll lp (lo.take (k + 1)) = addN (addAll lp (lo.take k)) p) := Lib.hid (by unfold addAll; rw [List.take_add_one, hpp]; simp)
      have hbw : b < wr.heap.size := by omega
      clear hpp
      generalize addAll lp (lo.take k) = lq at *
      cases h3 : hasB lq p
      · have H3 := Lib.hid h3
        have HTQ : Hid (addAll lp (lo.take (k + 1)) = lq ++ [p]) := Lib.hid (by rw [HTK.out]; unfold addN; rw [if_neg (by rw [h3]; simp)])
        clear h3
        go_wp2_with fail
        refine (l16Has_any P' lq.length d' lq p _ (HO.out.rd msgC_len)).mono ?_
        rw [H3.out]
        rintro e w1 ⟨rfl, hb⟩
        have HO1 := Lib.hid ((HO.out.below hb (Nat.le_refl _)).wide (Nat.le_refl _) hb.size)
        have HB1 := Lib.hid (HB.out.trans (hb.mono (by omega)))
        have k0 := (hb.cell (p := ⟨b, off + k * 5, none⟩) hbw).trans c0
        have k1 := (hb.cell (p := ⟨b, off + k * 5 + 1, none⟩) hbw).trans c1
        have k2 := (hb.cell (p := ⟨b, off + k * 5 + 2, none⟩) hbw).trans c2
        have k3 := (hb.cell (p := ⟨b, off + k * 5 + 3, none⟩) hbw).trans c3
        have k4 := (hb.cell (p := ⟨b, off + k * 5 + 4, none⟩) hbw).trans c4
        have hs1 := hb.size
        clear hb c0 c1 c2 c3 c4
        go_wp2_with (at_builtin; refine wpList_app_rd _ rfl _ _ _ rfl z 49 i0 _ 5 40 Try.underlying25 hi hz0 hz1 hz2 rfl (by decide) (.slice P' lq.length d') lq.length (lq.flatMap msgC) rfl (by exact (HO1.out.owns msgC_len).alloc _) _ _ 1 1 _ rfl (by exact Rd.one5S w1 p _ (by first | rfl | simp)) (msgC_oneS _) (by unfold maxLen; omega) (by omega) (by first | (simp; done) | (simp; omega)) ?_)
        intro v2 w2 hown hg hat
        have hown : w2.ownsRow z 49 5 v2 (lq.length + 1) ((lq ++ [p]).flatMap msgC) := by rw [List.flatMap_append]; simpa [msgC] using hown
        obtain ⟨P2, d2, rfl, ho2⟩ := OwnL.of_own (f := msgC) (n := lq.length + 1) (l := lq ++ [p]) (by simp) hown
        have HO2 : Hid (OwnL msgC 5 49 w2 z w2.heap.size P2 (lq ++ [p]).length d2 (lq ++ [p])) := Lib.hid (by simpa using ho2)
        have HB2 := Lib.hid (HB1.out.trans (((Below.refl z w1).alloc (by omega) _).trans (Below.grown (Below.refl z _) hg (by simp; omega) (fun g e => (HO1.out.block g e).1))))
        clear hown hg hat ho2 k0 k1 k2 k3 k4
        go_wp2_with fail
        go_roundw
        case rel => exact ⟨k + 1, P2, d2, by omega, by go_num, by rw [HTQ.out]; simp, by rw [HTQ.out]; exact HO2.out, HB2.out⟩
        case measure => simp [intOf]; omega
      · have H3 := Lib.hid h3
        have HTQ : Hid (addAll lp (lo.take (k + 1)) = lq) := Lib.hid (by rw [HTK.out]; unfold addN; rw [if_pos h3])
        clear h3
        go_wp2_with fail
        refine (l16Has_any P' lq.length d' lq p _ (HO.out.rd msgC_len)).mono ?_
        rw [H3.out]
        rintro e w1 ⟨rfl, hb⟩
        have HO1 := Lib.hid ((HO.out.below hb (Nat.le_refl _)).wide (Nat.le_refl _) hb.size)
        have HB1 := Lib.hid (HB.out.trans (hb.mono (by omega)))
        clear hb c0 c1 c2 c3 c4
        go_wp2_with fail
        go_roundw
        case rel => exact ⟨k + 1, P', d', by omega, by go_num, by rw [HTQ.out], by rw [HTQ.out]; exact HO1.out, HB1.out⟩
        case measure => simp [intOf]; omega
    · obtain rfl : k = lo.length := by omega
      rw [List.take_length] at HO hlen ⊢
      go_wp2_with fail
      go_ret2
      exact ⟨P', d', by first | rfl | (simp; done) | (simp; omega), HO.out, HB.out⟩
end Go.Proofs.Ytjgaelnonacdkaa
