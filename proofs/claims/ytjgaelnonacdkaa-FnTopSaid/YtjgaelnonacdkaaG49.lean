/- Dec, Dec2, Agreed, NetTop: joined into one text. -/
import Derived.WalkKit
import Derived.WalkSpells
import Derived.WalkLawsBesides
import Derived.Lib.Hide
import Derived.Test.YtjgaelnonacdkaaMNetOk
import Derived.Test.YtjgaelnonacdkaaMSortI
import Derived.Test.YtjgaelnonacdkaaMNetRule
namespace Go.Proofs.Ytjgaelnonacdkaa
open Go.RowKit

def decL (ln : List NodeD) : List Int := (ln.filter fun x => decide (0 < x.s.dec)).map fun x => x.s.dec
theorem decL_len (ln : List NodeD) : (decL ln).length ≤ ln.length := by
  unfold decL; rw [List.length_map]; exact List.length_filter_le _ _
theorem decL_snoc (ln : List NodeD) (x : NodeD) : decL (ln ++ [x]) = decL ln ++ if 0 < x.s.dec then [x.s.dec] else [] := by
  unfold decL
  rw [List.filter_append, List.map_append]
  congr 1
  by_cases h : 0 < x.s.dec <;> simp [h]
def decsL (ln : List NodeD) (lp : List NMsgD) : List Int := if netB ln lp = true then Lib.compact (sortI (decL ln)) else []
def DecOut (l : List Int) (w : World) (e : Ending) (w' : World) : Prop :=
  ∃ A c, e = .returned (.slice A l.length c) ∧ OwnL intC 1 3 w' w.heap.size w'.heap.size A l.length c l ∧ Below w.heap.size w w'

set_option maxRecDepth 100000 in
set_option maxHeartbeats 600000 in
theorem Decisions_any (A : Option Addr) (n c : Nat) (P : Option Addr) (p d : Nat) (ln : List NodeD) (lp : List NMsgD) (w : World) (hl : NodesRd w w.heap.size A n c ln) (hp : RdL msgC 5 w w.heap.size P p d lp) :
    Calls Try.prog 60 #[.agg #[.slice A n c, .slice P p d]] w (DecOut (decsL ln lp) w) := by
  obtain ⟨i0, hi, hz0, hz1, hz2⟩ := info_parts infoInt
  have hln : ln.length = n := by obtain ⟨_, _, h, _⟩ := hl; exact h
  subst hln
  have hn := hl.le
  have HL := Lib.hid hl
  have HP := Lib.hid hp
  clear hl hp
  cases hN : netB ln lp
  · have HE : Hid (decsL ln lp = []) := by show _ = _; unfold decsL; rw [hN]; rfl
    have HN := Lib.hid hN
    clear hN
    go_enter Try.func60, Try.ntmps60
    go_wp2_with fail
    refine (NetOk_any A ln.length c P p d ln lp _ (by exact (HL.out.alloc (Nat.le_refl _) _).more (by simp)) (by exact (HP.out.alloc (Nat.le_refl _) _).more (by simp))).mono ?_
    rw [HN.out]
    rintro e w1 ⟨rfl, hb⟩
    have HW : Hid (Below w.heap.size w w1) := (by repeat (first | exact Below.refl _ _ | assumption | refine Below.drew ?_ | refine belN ?_ _ | refine Below.alloc ?_ (by first | exact Nat.le_refl _ | (simp; done) | (simp; omega) | omega) _ | refine Below.setCell ?_ (by first | exact Nat.le_refl _ | (simp; done) | (simp; omega) | omega) _ | refine Below.trans ?_ (Below.mono (by assumption) (by first | exact Nat.le_refl _ | (simp; done) | (simp; omega) | omega))))
    clear hb
    go_wp2_with fail
    go_ret
    rw [HE.out]
    exact ⟨none, 0, rfl, ⟨rfl, .inl ⟨rfl, rfl, rfl⟩⟩, HW.out⟩
  have hn3 : ln.length = 3 := by simp only [netB, Bool.and_eq_true, decide_eq_true_eq] at hN; exact hN.1.1
  have HN3 := Lib.hid hn3
  have hn4 : ln.length ≤ 3 := by omega
  have HE : Hid (decsL ln lp = Lib.compact (sortI (decL ln))) := by show _ = _; unfold decsL; rw [hN]; rfl
  have HN := Lib.hid hN
  clear hN hn3
  go_enter Try.func60, Try.ntmps60
  go_wp2_with fail
  refine (NetOk_any A ln.length c P p d ln lp _ (by exact (HL.out.alloc (Nat.le_refl _) _).more (by simp)) (by exact (HP.out.alloc (Nat.le_refl _) _).more (by simp))).mono ?_
  rw [HN.out]
  rintro e w1 ⟨rfl, hb⟩
  obtain ⟨hc, hf, hz⟩ := bcell hb
  have hz0' : w.heap.size < w1.heap.size := by simp at hz; omega
  have HW : Hid (Below w.heap.size w w1) := (by repeat (first | exact Below.refl _ _ | assumption | refine Below.drew ?_ | refine belN ?_ _ | refine Below.alloc ?_ (by first | exact Nat.le_refl _ | (simp; done) | (simp; omega) | omega) _ | refine Below.setCell ?_ (by first | exact Nat.le_refl _ | (simp; done) | (simp; omega) | omega) _ | refine Below.trans ?_ (Below.mono (by assumption) (by first | exact Nat.le_refl _ | (simp; done) | (simp; omega) | omega))))
  have s0 : w1.cell? ⟨w.heap.size, 0, none⟩ = some (.slice A ln.length c) := by rw [hc _ _ (by simp)]; simp
  clear hc hf hz hb
  go_wp2_with fail
  go_loopw [3, 13] (fun o i wr => ∃ j : Nat, j ≤ ln.length ∧ i = .int .i64 j ∧ wr.ownsRow w1.heap.size 3 1 o (decL (ln.take j)).length ((decL (ln.take j)).flatMap intC) ∧ Below w1.heap.size w1 wr) (fun _ i _ => ln.length - (intOf i).toNat)
  case atStart => exact ⟨0, by omega, rfl, World.ownsRow_lit w1 #[] 0 (Nat.le_refl _) (by decide) rfl, (by repeat (first | exact Below.refl _ _ | assumption | refine Below.drew ?_ | refine belN ?_ _ | refine Below.alloc ?_ (by first | exact Nat.le_refl _ | (simp; done) | (simp; omega) | omega) _ | refine Below.setCell ?_ (by first | exact Nat.le_refl _ | (simp; done) | (simp; omega) | omega) _ | refine Below.trans ?_ (Below.mono (by assumption) (by first | exact Nat.le_refl _ | (simp; done) | (simp; omega) | omega))))⟩
  case round =>
    obtain ⟨j, hj, rfl, hown, hb⟩ := hrel
    have HO := Lib.hid hown; clear hown
    have hz : w1.heap.size ≤ wr.heap.size := hb.size
    have HB : Hid (Below w.heap.size w wr) := HW.out.trans (hb.mono (by omega))
    have HBR := Lib.hid hb
    clear hb
    have hdl := decL_len (ln.take j)
    have hdl3 : (decL (ln.take j)).length ≤ 3 := by rw [List.length_take] at hdl; omega
    clear hdl
    by_cases hjn : j < ln.length
    · obtain ⟨b, off, s, A1, n1, c1, l, rfl, hb1, hx, hr, c0, c1', c2, c3, c4, c5, c6, c7, c8, c9⟩ := (HL.out.below HB.out (Nat.le_refl _)).at_ hjn
      have HT := Lib.hid (take_next' hx)
      have HS := Lib.hid (decL_snoc (ln.take j) ⟨s, l⟩)
      have hbo : b < wr.heap.size := by omega
      clear hx hr
      generalize hfs : decL (ln.take j) = fs at *
      clear hfs
      by_cases hd : 0 < s.dec
      · have HG : Hid (decL (ln.take (j + 1)) = fs ++ [s.dec]) := by show _ = _; rw [HT.out, HS.out, if_pos hd]
        go_wp2_with (at_builtin; go_must (refine wpList_app_rd _ rfl _ _ _ rfl w1.heap.size 3 i0 _ 1 8 Try.underlying85 hi hz0 hz1 hz2 rfl (by decide) _ _ _ rfl (by exact (HO.out.alloc _).alloc _) _ _ 1 1 _ rfl (by exact (Rd_oneI _ #[.int .i64 s.dec] 3 1 rfl _ (by simp))) (by simp [Value.oneCell']) (by unfold maxLen; omega) (by omega) (by first | with_reducible exact Nat.le_refl _ | (simp; done) | omega | (simp; omega)) ?_))
        intro v' w2 hown' hgrow _
        have HB2 := Lib.hid (((HBR.out.alloc hz _).alloc (by simp; omega) _).grown hgrow (by simp; omega) (fun g hg => (HO.out.lt g hg).1))
        have HO2 := Lib.hid hown'
        clear hown' hgrow
        go_wp2
        go_roundw
        case rel => exact ⟨j + 1, by omega, by go_num, by rw [HG.out]; simpa [intC] using HO2.out, HB2.out⟩
        case measure => simp [intOf]; omega
      · have HG : Hid (decL (ln.take (j + 1)) = fs) := by show _ = _; rw [HT.out, HS.out, if_neg hd]; simp
        go_wp2_with fail
        go_roundw
        case rel => exact ⟨j + 1, by omega, by go_num, by rw [HG.out]; exact HO.out.alloc _, HBR.out.alloc hz _⟩
        case measure => simp [intOf]; omega
    · obtain rfl : j = ln.length := by omega
      have hall : ln.take ln.length = ln := List.take_length
      rw [hall] at HO hdl3
      go_wp2_with fail
      refine (Sort_own w1.heap.size _ (decL ln) _ HO.out (by omega)).mono ?_
      rintro e w2 ⟨rfl, ho2, hg2⟩
      have HB2 := Lib.hid (HBR.out.grown hg2 (by omega) (fun g hg => (HO.out.lt g hg).1))
      rw [← sortI_len (decL ln)] at ho2
      have HO2 := Lib.hid ho2
      have hl2 := sortI_len (decL ln)
      clear ho2 hg2
      go_wp2_with fail
      refine (Compact_own w1.heap.size _ (sortI (decL ln)) _ HO2.out (by omega)).mono ?_
      rintro e w3 ⟨v', rfl, ho3, hg3⟩
      have HB3 := Lib.hid (HB2.out.grown hg3 (by have := HB2.out.size; omega) (fun g hg => (HO2.out.lt g hg).1))
      obtain ⟨A3, c3', rfl, ho⟩ := OwnL.of_own rfl ho3
      have HO3 := Lib.hid ho
      clear ho3 hg3 ho
      go_wp2_with fail
      go_ret
      rw [HE.out]
      exact ⟨A3, c3', rfl, HO3.out.wide (by omega) (Nat.le_refl _), HW.out.trans (HB3.out.mono (by omega))⟩
end Go.Proofs.Ytjgaelnonacdkaa
namespace Go.Proofs.Ytjgaelnonacdkaa
open Go.RowKit

def specD (ln : List NodeD) (V : Nat) : List Int := ((List.range V).filter fun (v : Nat) => ln.any fun x => x.s.dec == (v : Int) + 1).map fun (v : Nat) => (v : Int) + 1
theorem specD_succ (ln : List NodeD) (V : Nat) : specD ln (V + 1) = specD ln V ++ if (ln.any fun x => x.s.dec == (V : Int) + 1) = true then [(V : Int) + 1] else [] := by
  unfold specD
  rw [List.range_succ, List.filter_append, List.map_append]
  congr 1
  by_cases h : (ln.any fun x => x.s.dec == (V : Int) + 1) = true
  · rw [if_pos h]; simp only [List.filter_cons, h]; simp
  · rw [if_neg h]; simp only [List.filter_cons, h]; simp
theorem specD_len (ln : List NodeD) (V : Nat) : (specD ln V).length ≤ V := by
  unfold specD
  rw [List.length_map]
  have := List.length_filter_le (fun v => ln.any fun x => x.s.dec == ((v : Nat) : Int) + 1) (List.range V)
  rw [List.length_range] at this
  exact this
theorem dec_eq {ln : List NodeD} {lp : List NMsgD} (h : netB ln lp = true) : Lib.compact (sortI (decL ln)) = specD ln 20 := by
  have hbd : ∀ x ∈ ln, x.s.dec ≤ 20 := by
    intro x hx
    simp only [netB, Bool.and_eq_true] at h
    have hall := h.2
    obtain ⟨i, hi⟩ := List.getElem?_of_mem hx
    cases hq : nodeAt lp i x
    · rw [allTo_no hi hq] at hall; cases hall
    · simp only [nodeAt, nodeB, Bool.and_eq_true, inB_iff] at hq
      omega
  obtain ⟨c1, c2, c3⟩ := compact_spec (sortI (decL ln)) (sortI_sorted _) _ (Nat.le_refl _)
  refine strict_eq _ _ c1 ?_ fun x => ?_
  · unfold specD
    rw [List.pairwise_map]
    refine List.Pairwise.imp (fun h => by omega) (List.Pairwise.filter _ (List.pairwise_lt_range))
  · have hm : x ∈ Lib.compact (sortI (decL ln)) ↔ x ∈ decL ln := by
      have hs : x ∈ sortI (decL ln) ↔ x ∈ decL ln := by unfold sortI; exact List.mem_mergeSort
      rw [← hs]
      constructor
      · intro hx
        obtain ⟨j, hj, e⟩ := c2 x hx
        rw [← e]
        simp [getElem!_pos, hj]
      · intro hx
        obtain ⟨j, hj, e⟩ := List.mem_iff_getElem.1 hx
        have := c3 j hj
        have e2 : (sortI (decL ln)).toArray[j]! = x := by simp [getElem!_pos, hj, e]
        rw [e2] at this; exact this
    rw [hm]
    unfold decL specD
    simp only [List.mem_map, List.mem_filter, decide_eq_true_eq, List.mem_range, List.any_eq_true, beq_iff_eq]
    constructor
    · rintro ⟨y, ⟨hy, h0⟩, rfl⟩
      have := hbd y hy
      exact ⟨(y.s.dec - 1).toNat, ⟨by omega, y, hy, by omega⟩, by omega⟩
    · rintro ⟨v, ⟨hv, y, hy, e⟩, rfl⟩
      exact ⟨y, ⟨hy, by omega⟩, e⟩

set_option maxRecDepth 100000 in
set_option maxHeartbeats 1000000 in
theorem sDecisions_any (A : Option Addr) (n c : Nat) (P : Option Addr) (p d : Nat) (ln : List NodeD) (lp : List NMsgD) (w : World) (hl : NodesRd w w.heap.size A n c ln) (hp : RdL msgC 5 w w.heap.size P p d lp) :
    Calls Try.prog 61 #[.agg #[.slice A n c, .slice P p d]] w (DecOut (decsL ln lp) w) := by
  obtain ⟨i0, hi, hz0, hz1, hz2⟩ := info_parts infoInt
  have hln : ln.length = n := by obtain ⟨_, _, h, _⟩ := hl; exact h
  subst hln
  have hn := hl.le
  have HL := Lib.hid hl
  have HP := Lib.hid hp
  clear hl hp
  cases hN : netB ln lp
  · have HE : Hid (decsL ln lp = []) := by show _ = _; unfold decsL; rw [hN]; rfl
    have HN := Lib.hid hN
    clear hN
    go_enter Try.func61, Try.ntmps61
    go_wp2_with fail
    go_loopw [3, 4] (fun o i wr => wr = (w.alloc (.cells #[.slice A ln.length c, .slice P p d] 27)).alloc (.cells #[] 3) ∧ i = .int .i64 1 ∧ wr.ownsRow w.heap.size 3 1 o 0 []) (fun _ _ _ => 0)
    case atStart => exact ⟨by simp, rfl, by have := World.ownsRow_lit (w.alloc (.cells #[.slice A ln.length c, .slice P p d] 27)) (base := w.heap.size) (e := 3) (size := 1) #[] 0 (by simp) (by decide) rfl; simpa using this⟩
    case round =>
      obtain ⟨rfl, rfl, hown⟩ := hrel
      have HO := Lib.hid hown
      clear hown
      have h20 : decide ((1 : Int) ≤ 20) = true := by decide
      go_wp2_with fail
      refine (sNetOk_any A ln.length c P p d ln lp _ (by exact ((HL.out.alloc (Nat.le_refl _) _).alloc (by simp) _).more (by simp; omega)) (by exact ((HP.out.alloc (Nat.le_refl _) _).alloc (by simp) _).more (by simp; omega))).mono ?_
      rw [HN.out]
      rintro e w1 ⟨rfl, hb⟩
      have HW : Hid (Below w.heap.size w w1) := Below.trans (((Below.refl _ _).alloc (Nat.le_refl _) _).alloc (by simp) _) (hb.mono (by simp; omega))
      have HO1 := Lib.hid (own_keep HO.out hb (Nat.le_refl _))
      clear hb
      obtain ⟨A1, c1, rfl, ho⟩ := OwnL.of_own (f := intC) (l := []) rfl HO1.out
      have HOL := Lib.hid ho
      clear ho
      go_wp2_with fail
      go_ret
      rw [HE.out]
      exact ⟨A1, c1, rfl, HOL.out, HW.out⟩
  have hn3 : ln.length = 3 := by simp only [netB, Bool.and_eq_true, decide_eq_true_eq] at hN; exact hN.1.1
  have HN3 := Lib.hid hn3
  have HE : Hid (decsL ln lp = specD ln 20) := by show _ = _; unfold decsL; rw [hN, if_pos rfl]; exact dec_eq hN
  have HN := Lib.hid hN
  clear hN hn3
  go_enter Try.func61, Try.ntmps61
  go_wp2_with fail
  go_loopw [3, 4] (fun o i wr => ∃ V : Nat, V ≤ 20 ∧ i = .int .i64 ((V : Int) + 1) ∧ w.heap.size < wr.heap.size ∧ wr.cell? ⟨w.heap.size, 0, none⟩ = some (.slice A ln.length c) ∧ wr.cell? ⟨w.heap.size, 1, none⟩ = some (.slice P p d) ∧
      wr.ownsRow (w.heap.size + 1) 3 1 o (specD ln V).length ((specD ln V).flatMap intC) ∧ Below w.heap.size w wr) (fun _ i _ => 21 - (intOf i).toNat)
  case atStart => exact ⟨0, by omega, rfl, by simp; omega, by simp, by simp, by have := World.ownsRow_lit (w.alloc (.cells #[.slice A ln.length c, .slice P p d] 27)) (base := w.heap.size + 1) (e := 3) (size := 1) #[] 0 (by simp) (by decide) rfl; simpa [specD] using this, (by repeat (first | exact Below.refl _ _ | assumption | refine Below.drew ?_ | refine belN ?_ _ | refine Below.alloc ?_ (by first | exact Nat.le_refl _ | (simp; done) | (simp; omega) | omega) _ | refine Below.setCell ?_ (by first | exact Nat.le_refl _ | (simp; done) | (simp; omega) | omega) _ | refine Below.trans ?_ (Below.mono (by assumption) (by first | exact Nat.le_refl _ | (simp; done) | (simp; omega) | omega))))⟩
  case round =>
    obtain ⟨V, hV, rfl, hz, x0, x1, hown, hb⟩ := hrel
    obtain ⟨wo, rfl⟩ : ∃ wo : World, wo = wr := ⟨_, rfl⟩
    have HO := Lib.hid hown
    have HB := Lib.hid hb
    clear hown hb
    have hsl := specD_len ln V
    by_cases hVn : V < 20
    · have hVb : decide ((V : Int) + 1 ≤ 20) = true := decide_eq_true (by omega)
      go_wp2_with fail
      refine (sNetOk_any A ln.length c P p d ln lp _ (by exact (HL.out.below HB.out (Nat.le_refl _)).more HB.out.size) (by exact (HP.out.below HB.out (Nat.le_refl _)).more HB.out.size)).mono ?_
      rw [HN.out]
      rintro e w1 ⟨rfl, hb⟩
      have y0 := (hb.cell (p := ⟨w.heap.size, 0, none⟩) hz).trans x0
      have y1 := (hb.cell (p := ⟨w.heap.size, 1, none⟩) hz).trans x1
      have hzq : wo.heap.size ≤ w1.heap.size := hb.size
      have hzw : w.heap.size < w1.heap.size := by omega
      have HO1 := Lib.hid (own_keep HO.out hb (Nat.le_refl _))
      have HB1 := Lib.hid (HB.out.trans (hb.mono HB.out.size))
      clear hb x0 x1
      go_wp2_with fail
      go_loopw [5, 6] (fun q i wr => ∃ j : Nat, j ≤ 3 ∧ i = .int .i64 j ∧ q = .bool ((ln.take j).any fun x => x.s.dec == (V : Int) + 1) ∧ wr = w1) (fun _ i _ => 3 - (intOf i).toNat)
      case atStart => exact ⟨0, by omega, rfl, by simp, rfl⟩
      case round =>
        obtain ⟨j, hj, rfl, rfl, rfl⟩ := hrel
        by_cases hj3 : j < 3
        · have hjl : j < ln.length := by have := HN3.out; omega
          obtain ⟨b, off, s, A1, n1, c1, l, rfl, hb1, hx, hr, c0, c1', c2, c3, c4, c5, c6, c7, c8, c9⟩ := (HL.out.below HB1.out (Nat.le_refl _)).at_ hjl
          have HX : Hid (((ln.take (j + 1)).any fun x => x.s.dec == (V : Int) + 1) = (((ln.take j).any fun x => x.s.dec == (V : Int) + 1) || (s.dec == (V : Int) + 1))) := by show _ = _; rw [take_next' hx, List.any_append]; simp
          have hbl : b < wr.heap.size := by omega
          clear hx hr
          generalize ((ln.take j).any fun x => x.s.dec == (V : Int) + 1) = q0 at *
          cases q0
          · cases hd : (s.dec == (V : Int) + 1)
            · go_wp2
              go_roundw
              case rel => exact ⟨j + 1, by omega, by go_num, by rw [HX.out, hd]; rfl, trivial⟩
              case measure => simp [intOf]; omega
            · go_wp2
              go_roundw
              case rel => exact ⟨j + 1, by omega, by go_num, by rw [HX.out, hd]; rfl, trivial⟩
              case measure => simp [intOf]; omega
          · go_wp2
            go_roundw
            case rel => exact ⟨j + 1, by omega, by go_num, by rw [HX.out]; rfl, trivial⟩
            case measure => simp [intOf]; omega
        · obtain rfl : j = 3 := by omega
          have hall : ln.take 3 = ln := List.take_of_length_le (by have := HN3.out; omega)
          rw [hall]
          have HS := Lib.hid (specD_succ ln V)
          cases hq : (ln.any fun x => x.s.dec == (V : Int) + 1)
          · have HG : Hid (specD ln (V + 1) = specD ln V) := by show _ = _; rw [HS.out, hq]; simp
            go_wp2
            go_roundw
            case rel => exact ⟨V + 1, by omega, by go_num, hzw, y0, y1, by rw [HG.out]; exact HO1.out, HB1.out⟩
            case measure => simp [intOf]; omega
          · have HG : Hid (specD ln (V + 1) = specD ln V ++ [(V : Int) + 1]) := by show _ = _; rw [HS.out, hq]; simp
            generalize hfs : specD ln V = fs at *
            go_wp2_with (at_builtin; go_must (refine wpList_app_rd _ rfl _ _ _ rfl (w.heap.size + 1) 3 i0 _ 1 8 Try.underlying85 hi hz0 hz1 hz2 rfl (by decide) _ _ _ rfl (by exact HO1.out.alloc _) _ _ 1 1 _ rfl (by exact (Rd_oneI _ #[.int .i64 ((V : Int) + 1)] 3 1 rfl _ (by simp))) (by simp [Value.oneCell']) (by unfold maxLen; omega) (by omega) (by first | with_reducible exact Nat.le_refl _ | (simp; done) | omega | (simp; omega)) ?_))
            intro v' w2 hown' hgrow _
            have hg2 : Chg (w.heap.size + 1) wr.heap.size wr w2 := ((Chg.refl _ _ wr).alloc _).trans (grown_chg (lo := w.heap.size + 1) (hi := wr.heap.size) hgrow (fun g hg => HO1.out.lt g hg))
            have HG2 := Lib.hid hg2
            have k0 := (hg2.cell hzw (.inl (by omega))).trans y0
            have k1 := (hg2.cell hzw (.inl (by omega))).trans y1
            have hz2' : w.heap.size < w2.heap.size := by have := hg2.size; omega
            have HO2 := Lib.hid hown'
            clear hown' hgrow hg2
            go_wp2
            go_roundw
            case rel => exact ⟨V + 1, by omega, by go_num, hz2', k0, k1, by rw [HG.out]; simpa [intC] using HO2.out, HB1.out.trans (HG2.out.below (by omega) (by omega))⟩
            case measure => simp [intOf]; omega
    · obtain rfl : V = 20 := by omega
      obtain ⟨A1, c1, rfl, ho⟩ := OwnL.of_own rfl HO.out
      have HOL := Lib.hid ho
      clear ho
      go_wp2
      go_ret
      rw [HE.out]
      exact ⟨A1, c1, rfl, HOL.out.wide (by omega) (Nat.le_refl _), HB.out⟩
def agreedB (ln : List NodeD) (lp : List NMsgD) : Bool := netB ln lp && decide (((decsL ln lp).length : Int) ≤ 1)
end Go.Proofs.Ytjgaelnonacdkaa
namespace Go.Proofs.Ytjgaelnonacdkaa
open Go.RowKit

set_option maxRecDepth 100000 in
set_option maxHeartbeats 1000000 in
theorem Agreed_any (A : Option Addr) (n c : Nat) (P : Option Addr) (p d : Nat) (ln : List NodeD) (lp : List NMsgD) (w : World) (hl : NodesRd w w.heap.size A n c ln) (hp : RdL msgC 5 w w.heap.size P p d lp) :
    Calls Try.prog 26 #[.agg #[.slice A n c, .slice P p d]] w fun e w' => e = .returned (.bool (agreedB ln lp)) ∧ Below w.heap.size w w' := by
  have HL := Lib.hid hl
  have HP := Lib.hid hp
  clear hl hp
  cases hN : netB ln lp
  · have HE : Hid (agreedB ln lp = false) := by show _ = _; simp [agreedB, hN]
    have HN := Lib.hid hN
    clear hN
    go_enter Try.func26, Try.ntmps26
    go_wp2_with fail
    refine (NetOk_any A n c P p d ln lp _ (by exact (HL.out.alloc (Nat.le_refl _) _).more (by simp)) (by exact (HP.out.alloc (Nat.le_refl _) _).more (by simp))).mono ?_
    rw [HN.out]
    rintro e w1 ⟨rfl, hb⟩
    have HW : Hid (Below w.heap.size w w1) := (by repeat (first | exact Below.refl _ _ | assumption | refine Below.drew ?_ | refine belN ?_ _ | refine Below.alloc ?_ (by first | exact Nat.le_refl _ | (simp; done) | (simp; omega) | omega) _ | refine Below.setCell ?_ (by first | exact Nat.le_refl _ | (simp; done) | (simp; omega) | omega) _ | refine Below.trans ?_ (Below.mono (by assumption) (by first | exact Nat.le_refl _ | (simp; done) | (simp; omega) | omega))))
    clear hb
    go_wp2_with fail
    go_ret
    exact ⟨by rw [HE.out]; rfl, HW.out⟩
  have HE : Hid (agreedB ln lp = decide (((decsL ln lp).length : Int) ≤ 1)) := by show _ = _; simp [agreedB, hN]
  have HN := Lib.hid hN
  clear hN
  obtain ⟨m, hm⟩ : ∃ m, m = (decsL ln lp).length := ⟨_, rfl⟩
  rw [← hm] at HE
  have HM := Lib.hid hm
  clear hm
  go_enter Try.func26, Try.ntmps26
  go_wp2_with fail
  refine (NetOk_any A n c P p d ln lp _ (by exact (HL.out.alloc (Nat.le_refl _) _).more (by simp)) (by exact (HP.out.alloc (Nat.le_refl _) _).more (by simp))).mono ?_
  rw [HN.out]
  rintro e w1 ⟨rfl, hb⟩
  obtain ⟨hc, hf, hz⟩ := bcell hb
  have s0 : w1.cell? ⟨w.heap.size, 0, none⟩ = some (.slice A n c) := by rw [hc _ _ (by simp)]; simp
  have s1 : w1.cell? ⟨w.heap.size, 1, none⟩ = some (.slice P p d) := by rw [hc _ _ (by simp)]; simp
  have HW : Hid (Below w.heap.size w w1) := (by repeat (first | exact Below.refl _ _ | assumption | refine Below.drew ?_ | refine belN ?_ _ | refine Below.alloc ?_ (by first | exact Nat.le_refl _ | (simp; done) | (simp; omega) | omega) _ | refine Below.setCell ?_ (by first | exact Nat.le_refl _ | (simp; done) | (simp; omega) | omega) _ | refine Below.trans ?_ (Below.mono (by assumption) (by first | exact Nat.le_refl _ | (simp; done) | (simp; omega) | omega))))
  clear hc hf hz hb
  go_wp2_with fail
  refine (Decisions_any A n c P p d ln lp _ (by exact (HL.out.below HW.out (Nat.le_refl _)).more HW.out.size) (by exact (HP.out.below HW.out (Nat.le_refl _)).more HW.out.size)).mono ?_
  rintro e w2 ⟨A2, c2, rfl, _, hb⟩
  have HW2 := Lib.hid (HW.out.trans (hb.mono HW.out.size))
  clear hb
  rw [← HM.out]
  go_wp2_with fail
  go_ret
  exact ⟨by rw [HE.out]; rfl, HW2.out⟩

set_option maxRecDepth 100000 in
set_option maxHeartbeats 1000000 in
theorem sAgreed_any (A : Option Addr) (n c : Nat) (P : Option Addr) (p d : Nat) (ln : List NodeD) (lp : List NMsgD) (w : World) (hl : NodesRd w w.heap.size A n c ln) (hp : RdL msgC 5 w w.heap.size P p d lp) :
    Calls Try.prog 27 #[.agg #[.slice A n c, .slice P p d]] w fun e w' => e = .returned (.bool (agreedB ln lp)) ∧ Below w.heap.size w w' := by
  have HL := Lib.hid hl
  have HP := Lib.hid hp
  clear hl hp
  cases hN : netB ln lp
  · have HE : Hid (agreedB ln lp = false) := by show _ = _; simp [agreedB, hN]
    have HN := Lib.hid hN
    clear hN
    go_enter Try.func27, Try.ntmps27
    go_wp2_with fail
    refine (sNetOk_any A n c P p d ln lp _ (by exact (HL.out.alloc (Nat.le_refl _) _).more (by simp)) (by exact (HP.out.alloc (Nat.le_refl _) _).more (by simp))).mono ?_
    rw [HN.out]
    rintro e w1 ⟨rfl, hb⟩
    have HW : Hid (Below w.heap.size w w1) := (by repeat (first | exact Below.refl _ _ | assumption | refine Below.drew ?_ | refine belN ?_ _ | refine Below.alloc ?_ (by first | exact Nat.le_refl _ | (simp; done) | (simp; omega) | omega) _ | refine Below.setCell ?_ (by first | exact Nat.le_refl _ | (simp; done) | (simp; omega) | omega) _ | refine Below.trans ?_ (Below.mono (by assumption) (by first | exact Nat.le_refl _ | (simp; done) | (simp; omega) | omega))))
    clear hb
    go_wp2_with fail
    go_ret
    exact ⟨by rw [HE.out]; rfl, HW.out⟩
  have HE : Hid (agreedB ln lp = decide (((decsL ln lp).length : Int) ≤ 1)) := by show _ = _; simp [agreedB, hN]
  have HN := Lib.hid hN
  clear hN
  obtain ⟨m, hm⟩ : ∃ m, m = (decsL ln lp).length := ⟨_, rfl⟩
  rw [← hm] at HE
  have HM := Lib.hid hm
  clear hm
  go_enter Try.func27, Try.ntmps27
  go_wp2_with fail
  refine (sNetOk_any A n c P p d ln lp _ (by exact (HL.out.alloc (Nat.le_refl _) _).more (by simp)) (by exact (HP.out.alloc (Nat.le_refl _) _).more (by simp))).mono ?_
  rw [HN.out]
  rintro e w1 ⟨rfl, hb⟩
  obtain ⟨hc, hf, hz⟩ := bcell hb
  have s0 : w1.cell? ⟨w.heap.size, 0, none⟩ = some (.slice A n c) := by rw [hc _ _ (by simp)]; simp
  have s1 : w1.cell? ⟨w.heap.size, 1, none⟩ = some (.slice P p d) := by rw [hc _ _ (by simp)]; simp
  have HW : Hid (Below w.heap.size w w1) := (by repeat (first | exact Below.refl _ _ | assumption | refine Below.drew ?_ | refine belN ?_ _ | refine Below.alloc ?_ (by first | exact Nat.le_refl _ | (simp; done) | (simp; omega) | omega) _ | refine Below.setCell ?_ (by first | exact Nat.le_refl _ | (simp; done) | (simp; omega) | omega) _ | refine Below.trans ?_ (Below.mono (by assumption) (by first | exact Nat.le_refl _ | (simp; done) | (simp; omega) | omega))))
  clear hc hf hz hb
  go_wp2_with fail
  refine (sDecisions_any A n c P p d ln lp _ (by exact (HL.out.below HW.out (Nat.le_refl _)).more HW.out.size) (by exact (HP.out.below HW.out (Nat.le_refl _)).more HW.out.size)).mono ?_
  rintro e w2 ⟨A2, c2, rfl, _, hb⟩
  have HW2 := Lib.hid (HW.out.trans (hb.mono HW.out.size))
  clear hb
  rw [← HM.out]
  go_wp2_with fail
  go_ret
  exact ⟨by rw [HE.out]; rfl, HW2.out⟩
end Go.Proofs.Ytjgaelnonacdkaa
namespace Go.Proofs.Ytjgaelnonacdkaa
open Go.RowKit

theorem compact_same (zs : List Int) (h : ∀ x ∈ zs, ∀ y ∈ zs, x = y) : (Lib.compact zs).length ≤ 1 := by
  have main : ∀ m, m ≤ zs.length → (Lib.compactUpTo zs.toArray m).length ≤ 1 ∧ (m = 0 → (Lib.compactUpTo zs.toArray m).length = 0) := by
    intro m
    induction m with
    | zero => exact fun _ => ⟨by simp [Lib.compactUpTo], fun _ => by simp [Lib.compactUpTo]⟩
    | succ m ih =>
      intro hm
      obtain ⟨h1, h2⟩ := ih (by omega)
      refine ⟨?_, fun e => by omega⟩
      rw [Lib.compactUpTo_succ, List.length_append]
      rcases Nat.eq_zero_or_pos m with h0 | h0
      · rw [h2 h0]; split <;> simp
      · have e1 : zs.toArray[m]! = zs[m]'(by omega) := by
          have : m < zs.length := by omega
          simp [this]
        have e2 : zs.toArray[m - 1]! = zs[m - 1]'(by omega) := by
          have : m - 1 < zs.length := by omega
          simp [this]
        rw [if_neg (by rw [Lib.keeps_neg h0 (by rw [e1, e2]; exact h _ (List.getElem_mem _) _ (List.getElem_mem _))]; simp)]
        simpa using h1
  exact (main _ (Nat.le_refl _)).1
theorem NetI.agreed {ln : List NodeD} {lp : List NMsgD} (h : NetI ln lp) : agreedB ln lp = true := by
  unfold agreedB decsL
  rw [h.netB, if_pos rfl]
  simp only [Bool.true_and, decide_eq_true_eq]
  have hm : ∀ x ∈ sortI (decL ln), ∃ n ∈ ln, 0 < n.s.dec ∧ n.s.dec = x := by
    intro x hx
    have hx' : x ∈ decL ln := by unfold sortI at hx; exact List.mem_mergeSort.1 hx
    unfold decL at hx'
    obtain ⟨n, hn, rfl⟩ := List.mem_map.1 hx'
    obtain ⟨h1, h2⟩ := List.mem_filter.1 hn
    exact ⟨n, h1, by simpa using h2, rfl⟩
  have := compact_same (sortI (decL ln)) (fun x hx y hy => by
    obtain ⟨n, n1, n2, rfl⟩ := hm x hx
    obtain ⟨k, k1, k2, rfl⟩ := hm y hy
    exact h.agree n1 k1 n2 k2)
  omega
end Go.Proofs.Ytjgaelnonacdkaa
