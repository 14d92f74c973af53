/- Decisions and Agreed of the program and of the reference. -/
import Derived.Test.YtbadfamoiccppaaNetOk
import Derived.Test.YtbadfamoiccppaaIntHas
import Derived.Test.YtbadfamoiccppaaApp
import Derived.Test.YtbadfamoiccppaaShelf
import Derived.Sort.OwnSortedInts
import Derived.Deep.DeepMust
import Derived.WalkKit
import Derived.WalkSpells
import Derived.WalkLawsBesides
import Derived.Lib.Hide
namespace Go.Proofs.Ytbadfamoiccppaa
open Go.RowKit

theorem flat_int (zs : List Int) : zs.flatMap intC = zs.map (Value.int .i64) := by
  induction zs with
  | nil => rfl
  | cons z zs ih => simp [intC, ih]
def sortI (zs : List Int) : List Int := zs.mergeSort fun x y => decide (x ≤ y)
theorem sortI_len (zs : List Int) : (sortI zs).length = zs.length := by unfold sortI; exact List.length_mergeSort _

theorem Sort_own (base : Nat) (v : Value) (zs : List Int) (w : World) (h : w.ownsRow base 3 1 v zs.length (zs.flatMap intC)) (hn : zs.length ≤ 1048576) :
    Calls Try.prog 61 #[v] w fun e w' => e = .returned (.tuple #[]) ∧ w'.ownsRow base 3 1 v zs.length ((sortI zs).flatMap intC) ∧ w.grownBy w' v.ownBlock := by
  rw [flat_int] at h ⊢
  rcases h.2 with ⟨h0, hx⟩ | ⟨g, cap, cur, rfl, hbase, hg, hnc, hcm, hsz, htk⟩
  · have hz : zs = [] := List.length_eq_zero_iff.1 hx
    subst hz
    subst h0
    refine (Try.slices_Sort_int_none none 0 w).mono ?_
    rintro e w' ⟨rfl, rfl⟩
    exact ⟨rfl, by simpa [sortI] using h, World.grownBy.refl _ _⟩
  · refine (Try.slices_Sort_int g 0 cap zs w (holds_of_blockI hg (by simpa using htk)) (Array.getElem?_eq_some_iff.1 hg).1 (by omega)).mono ?_
    rintro e w' ⟨rfl, n, os, rfl⟩
    refine ⟨rfl, ?_, grownBy_sortedI _⟩
    exact ownsRow_sortedI (ts := sortI zs) (sortI_len zs) hbase hg hnc hcm (by simpa using hsz)
theorem Compact_own (base : Nat) (v : Value) (zs : List Int) (w : World) (h : w.ownsRow base 3 1 v zs.length (zs.flatMap intC)) (hn : zs.length ≤ 1048576) :
    Calls Try.prog 62 #[v] w fun e w' => ∃ v', e = .returned v' ∧ w'.ownsRow base 3 1 v' (Lib.compact zs).length ((Lib.compact zs).flatMap intC) ∧ w.grownBy w' v.ownBlock := by
  rw [flat_int] at h ⊢
  rcases h.2 with ⟨h0, hx⟩ | ⟨g, cap, cur, rfl, hbase, hg, hnc, hcm, hsz, htk⟩
  · have hz : zs = [] := List.length_eq_zero_iff.1 hx
    subst hz
    subst h0
    refine (Try.slices_Compact_int_empty none 0 w).mono ?_
    rintro e w' ⟨rfl, rfl⟩
    have hc0 : Lib.compact ([] : List Int) = [] := rfl
    rw [hc0]
    exact ⟨_, rfl, by simpa using h, World.grownBy.refl _ _⟩
  · have hcl := Lib.compact_length_le zs
    refine (Try.slices_Compact_int g 0 cap zs w (holds_of_blockI hg (by simpa using htk)) (by omega) hnc).mono ?_
    rintro e w' ⟨rfl, n, rfl⟩
    have hle : (Lib.compact zs ++ List.replicate (zs.length - (Lib.compact zs).length) 0).length = zs.length := by simp; omega
    have ho := ownsRow_sortedI (n := n) (os := #[]) (ts := Lib.compact zs ++ List.replicate (zs.length - (Lib.compact zs).length) 0) hle hbase hg hnc hcm (by simpa using hsz)
    have hgr : w.grownBy _ (some g) := grownBy_sortedI (n := n) (os := #[]) (Lib.compact zs ++ List.replicate (zs.length - (Lib.compact zs).length) 0).toArray
    rw [Sort.grow_empty] at ho hgr
    refine ⟨_, rfl, ?_, hgr⟩
    rcases ho.2 with ⟨h0, _⟩ | ⟨g', cap', cur', hv, hb', hg', hn', hc', hs', ht'⟩
    · cases h0
    · simp only [Value.slice.injEq, Option.some.injEq, Addr.mk.injEq, and_true, true_and] at hv
      obtain ⟨rfl, rfl⟩ := hv
      refine ⟨by simp, .inr ⟨g, cap, cur', rfl, hb', hg', by omega, hc', hs', ?_⟩⟩
      have e2 := congrArg (List.take (Lib.compact zs).length) ht'
      rw [List.take_take, Nat.mul_one, Nat.min_eq_left hcl, List.map_append] at e2
      have e3 : List.take (Lib.compact zs).length (List.map (Value.int .i64) (Lib.compact zs) ++ List.map (Value.int .i64) (List.replicate (zs.length - (Lib.compact zs).length) 0)) = List.map (Value.int .i64) (Lib.compact zs) := by
        rw [List.take_append_of_le_length (by simp)]
        exact List.take_of_length_le (by simp)
      rw [e3] at e2
      rw [Nat.mul_one]
      exact e2
theorem Rd_oneI (w : World) (cs : Array Value) (t : TypeId) (size : Nat) (h : cs.size = size) (g : Nat) (hg : g = w.heap.size) : Rd (w.alloc (.cells cs t)) (w.heap.size + 1) (some ⟨g, 0, none⟩) 1 1 size cs.toList := by
  subst hg
  refine ⟨by simp [h], Nat.le_refl _, by unfold maxLen; omega, fun _ => ⟨w.heap.size, 0, rfl, by omega, fun j hj => ?_⟩⟩
  have hb : Blk (w.alloc (.cells cs t)) w.heap.size t cs := heap_alloc_new w _
  rw [hb.cell, Nat.zero_add]; simp

def decL (ln : List NodeD) : List Int := (ln.filter fun x => decide (0 < x.s.dec)).map fun x => x.s.dec
theorem decL_len (ln : List NodeD) : (decL ln).length ≤ ln.length := by
  unfold decL; rw [List.length_map]; exact List.length_filter_le _ _
theorem decL_snoc (ln : List NodeD) (x : NodeD) : decL (ln ++ [x]) = decL ln ++ if 0 < x.s.dec then [x.s.dec] else [] := by
  unfold decL
  rw [List.filter_append, List.map_append]
  congr 1
  by_cases h : 0 < x.s.dec <;> simp [h]
def decsL (ln : List NodeD) (lp : List NMsgD) : List Int := if netB ln lp = true then Lib.compact (sortI (decL ln)) else []
def DecOut (l : List Int) (w : World) (e : Ending) (w' : World) : Prop :=
  ∃ A c, e = .returned (.slice A l.length c) ∧ OwnL intC 1 3 w' w.heap.size w'.heap.size A l.length c l ∧ Below w.heap.size w w'
theorem take_next' {α : Type} {l : List α} {k : Nat} {x : α} (h : l[k]? = some x) : l.take (k + 1) = l.take k ++ [x] := by
  rw [List.take_add_one, h]; rfl

set_option maxRecDepth 100000 in
set_option maxHeartbeats 600000 in
theorem Decisions_any (A : Option Addr) (n c : Nat) (P : Option Addr) (p d : Nat) (ln : List NodeD) (lp : List NMsgD) (w : World) (hl : NodesRd w w.heap.size A n c ln) (hp : RdL msgC 5 w w.heap.size P p d lp) :
    Calls Try.prog 37 #[.agg #[.slice A n c, .slice P p d]] w (DecOut (decsL ln lp) w) := by
  obtain ⟨i0, hi, hz0, hz1, hz2⟩ := info_parts infoInt
  have hln : ln.length = n := by obtain ⟨_, _, h, _⟩ := hl; exact h
  subst hln
  have hn := hl.le
  have HL := Lib.hid hl
  have HP := Lib.hid hp
  clear hl hp
  cases hN : netB ln lp
  · have HE : Hid (decsL ln lp = []) := by show _ = _; unfold decsL; rw [hN]; rfl
    have HN := Lib.hid hN
    clear hN
    go_enter Try.func37, Try.ntmps37
    go_wp2_with fail
    refine (NetOk_any A ln.length c P p d ln lp _ (by exact (HL.out.alloc (Nat.le_refl _) _).more (by simp)) (by exact (HP.out.alloc (Nat.le_refl _) _).more (by simp))).mono ?_
    rw [HN.out]
    rintro e w1 ⟨rfl, hb⟩
    have HW : Hid (Below w.heap.size w w1) := (by repeat (first | exact Below.refl _ _ | assumption | refine Below.drew ?_ | refine belN ?_ _ | refine Below.alloc ?_ (by first | exact Nat.le_refl _ | (simp; done) | (simp; omega) | omega) _ | refine Below.setCell ?_ (by first | exact Nat.le_refl _ | (simp; done) | (simp; omega) | omega) _ | refine Below.trans ?_ (Below.mono (by assumption) (by first | exact Nat.le_refl _ | (simp; done) | (simp; omega) | omega))))
    clear hb
    go_wp2_with fail
    go_ret
    rw [HE.out]
    exact ⟨none, 0, rfl, ⟨rfl, .inl ⟨rfl, rfl, rfl⟩⟩, HW.out⟩
  have hn3 : ln.length = 3 := by simp only [netB, Bool.and_eq_true, decide_eq_true_eq] at hN; exact hN.1.1
  have HN3 := Lib.hid hn3
  have hn4 : ln.length ≤ 3 := by omega
  have HE : Hid (decsL ln lp = Lib.compact (sortI (decL ln))) := by show _ = _; unfold decsL; rw [hN]; rfl
  have HN := Lib.hid hN
  clear hN hn3
  go_enter Try.func37, Try.ntmps37
  go_wp2_with fail
  refine (NetOk_any A ln.length c P p d ln lp _ (by exact (HL.out.alloc (Nat.le_refl _) _).more (by simp)) (by exact (HP.out.alloc (Nat.le_refl _) _).more (by simp))).mono ?_
  rw [HN.out]
  rintro e w1 ⟨rfl, hb⟩
  obtain ⟨hc, hf, hz⟩ := bcell hb
  have hz0' : w.heap.size < w1.heap.size := by simp at hz; omega
  have HW : Hid (Below w.heap.size w w1) := (by repeat (first | exact Below.refl _ _ | assumption | refine Below.drew ?_ | refine belN ?_ _ | refine Below.alloc ?_ (by first | exact Nat.le_refl _ | (simp; done) | (simp; omega) | omega) _ | refine Below.setCell ?_ (by first | exact Nat.le_refl _ | (simp; done) | (simp; omega) | omega) _ | refine Below.trans ?_ (Below.mono (by assumption) (by first | exact Nat.le_refl _ | (simp; done) | (simp; omega) | omega))))
  have s0 : w1.cell? ⟨w.heap.size, 0, none⟩ = some (.slice A ln.length c) := by rw [hc _ _ (by simp)]; simp
  clear hc hf hz hb
  go_wp2_with fail
  go_loopw [3, 13] (fun o i wr => ∃ j : Nat, j ≤ ln.length ∧ i = .int .i64 j ∧ wr.ownsRow w1.heap.size 3 1 o (decL (ln.take j)).length ((decL (ln.take j)).flatMap intC) ∧ Below w1.heap.size w1 wr) (fun _ i _ => ln.length - (intOf i).toNat)
  case atStart => exact ⟨0, by omega, rfl, World.ownsRow_lit w1 #[] 0 (Nat.le_refl _) (by decide) rfl, (by repeat (first | exact Below.refl _ _ | assumption | refine Below.drew ?_ | refine belN ?_ _ | refine Below.alloc ?_ (by first | exact Nat.le_refl _ | (simp; done) | (simp; omega) | omega) _ | refine Below.setCell ?_ (by first | exact Nat.le_refl _ | (simp; done) | (simp; omega) | omega) _ | refine Below.trans ?_ (Below.mono (by assumption) (by first | exact Nat.le_refl _ | (simp; done) | (simp; omega) | omega))))⟩
  case round =>
    obtain ⟨j, hj, rfl, hown, hb⟩ := hrel
    have HO := Lib.hid hown; clear hown
    have hz : w1.heap.size ≤ wr.heap.size := hb.size
    have HB : Hid (Below w.heap.size w wr) := HW.out.trans (hb.mono (by omega))
    have HBR := Lib.hid hb
    clear hb
    have hdl := decL_len (ln.take j)
    have hdl3 : (decL (ln.take j)).length ≤ 3 := by rw [List.length_take] at hdl; omega
    clear hdl
    by_cases hjn : j < ln.length
    · obtain ⟨b, off, s, A1, n1, c1, l, rfl, hb1, hx, hr, c0, c1', c2, c3, c4, c5, c6, c7, c8, c9⟩ := (HL.out.below HB.out (Nat.le_refl _)).at_ hjn
      have HT := Lib.hid (take_next' hx)
      have HS := Lib.hid (decL_snoc (ln.take j) ⟨s, l⟩)
      have hbo : b < wr.heap.size := by omega
      clear hx hr
      generalize hfs : decL (ln.take j) = fs at *
      clear hfs
      by_cases hd : 0 < s.dec
      · have HG : Hid (decL (ln.take (j + 1)) = fs ++ [s.dec]) := by show _ = _; rw [HT.out, HS.out, if_pos hd]
        go_wp2_with (at_builtin; go_must (refine wpList_app_rd _ rfl _ _ _ rfl w1.heap.size 3 i0 _ 1 8 Try.underlying53 hi hz0 hz1 hz2 rfl (by decide) _ _ _ rfl (by exact (HO.out.alloc _).alloc _) _ _ 1 1 _ rfl (by exact (Rd_oneI _ #[.int .i64 s.dec] 3 1 rfl _ (by simp))) (by simp [Value.oneCell']) (by unfold maxLen; omega) (by omega) (by first | with_reducible exact Nat.le_refl _ | (simp; done) | omega | (simp; omega)) ?_))
        intro v' w2 hown' hgrow _
        have HB2 := Lib.hid (((HBR.out.alloc hz _).alloc (by simp; omega) _).grown hgrow (by simp; omega) (fun g hg => (HO.out.lt g hg).1))
        have HO2 := Lib.hid hown'
        clear hown' hgrow
        go_wp2
        go_roundw
        case rel => exact ⟨j + 1, by omega, by go_num, by rw [HG.out]; simpa [intC] using HO2.out, HB2.out⟩
        case measure => simp [intOf]; omega
      · have HG : Hid (decL (ln.take (j + 1)) = fs) := by show _ = _; rw [HT.out, HS.out, if_neg hd]; simp
        go_wp2_with fail
        go_roundw
        case rel => exact ⟨j + 1, by omega, by go_num, by rw [HG.out]; exact HO.out.alloc _, HBR.out.alloc hz _⟩
        case measure => simp [intOf]; omega
    · obtain rfl : j = ln.length := by omega
      have hall : ln.take ln.length = ln := List.take_length
      rw [hall] at HO hdl3
      go_wp2_with fail
      refine (Sort_own w1.heap.size _ (decL ln) _ HO.out (by omega)).mono ?_
      rintro e w2 ⟨rfl, ho2, hg2⟩
      have HB2 := Lib.hid (HBR.out.grown hg2 (by omega) (fun g hg => (HO.out.lt g hg).1))
      rw [← sortI_len (decL ln)] at ho2
      have HO2 := Lib.hid ho2
      have hl2 := sortI_len (decL ln)
      clear ho2 hg2
      go_wp2_with fail
      refine (Compact_own w1.heap.size _ (sortI (decL ln)) _ HO2.out (by omega)).mono ?_
      rintro e w3 ⟨v', rfl, ho3, hg3⟩
      have HB3 := Lib.hid (HB2.out.grown hg3 (by have := HB2.out.size; omega) (fun g hg => (HO2.out.lt g hg).1))
      obtain ⟨A3, c3', rfl, ho⟩ := OwnL.of_own rfl ho3
      have HO3 := Lib.hid ho
      clear ho3 hg3 ho
      go_wp2_with fail
      go_ret
      rw [HE.out]
      exact ⟨A3, c3', rfl, HO3.out.wide (by omega) (Nat.le_refl _), HW.out.trans (HB3.out.mono (by omega))⟩
end Go.Proofs.Ytbadfamoiccppaa
