/- Decisions of the reference; Agreed of both. -/
import Derived.Test.YtbadfamoiccppaaDec
import Derived.WalkKit
import Derived.WalkSpells
import Derived.WalkLawsBesides
import Derived.Lib.Hide
namespace Go.Proofs.Ytbadfamoiccppaa
open Go.RowKit

theorem strict_eq : ∀ (l1 l2 : List Int), l1.Pairwise (· < ·) → l2.Pairwise (· < ·) → (∀ x, x ∈ l1 ↔ x ∈ l2) → l1 = l2
  | [], [], _, _, _ => rfl
  | [], b :: t, _, _, h => absurd ((h b).2 (by simp)) (by simp)
  | a :: t, [], _, _, h => absurd ((h a).1 (by simp)) (by simp)
  | a :: t1, b :: t2, h1, h2, h => by
    rw [List.pairwise_cons] at h1 h2
    have hab : a = b := by
      have ha := (h a).1 (by simp)
      have hb := (h b).2 (by simp)
      simp only [List.mem_cons] at ha hb
      rcases ha with ha | ha
      · exact ha
      · rcases hb with hb | hb
        · exact hb.symm
        · have := h1.1 b hb
          have := h2.1 a ha
          omega
    subst hab
    rw [strict_eq t1 t2 h1.2 h2.2 fun x => ?_]
    have hx := h x
    simp only [List.mem_cons] at hx
    constructor
    · intro hm
      rcases hx.1 (.inr hm) with rfl | h'
      · have := h1.1 _ hm; omega
      · exact h'
    · intro hm
      rcases hx.2 (.inr hm) with rfl | h'
      · have := h2.1 _ hm; omega
      · exact h'
theorem compact_spec (zs : List Int) (hs : ∀ i j, i ≤ j → j < zs.length → zs.toArray[i]! ≤ zs.toArray[j]!) : ∀ m, m ≤ zs.length →
    (Lib.compactUpTo zs.toArray m).Pairwise (· < ·) ∧ (∀ x ∈ Lib.compactUpTo zs.toArray m, ∃ j, j < m ∧ zs.toArray[j]! = x) ∧ ∀ j, j < m → zs.toArray[j]! ∈ Lib.compactUpTo zs.toArray m := by
  intro m
  induction m with
  | zero => intro _; exact ⟨by simp [Lib.compactUpTo], by simp [Lib.compactUpTo], fun j hj => absurd hj (by omega)⟩
  | succ m ih =>
    intro hm
    obtain ⟨h1, h2, h3⟩ := ih (by omega)
    rw [Lib.compactUpTo_succ]
    by_cases hk : Lib.keeps zs.toArray m = true
    · rw [if_pos hk]
      refine ⟨?_, ?_, ?_⟩
      · rw [List.pairwise_append]
        refine ⟨h1, by simp, fun x hx y hy => ?_⟩
        simp only [List.mem_singleton] at hy
        subst hy
        obtain ⟨j, hj, rfl⟩ := h2 x hx
        have hne : zs.toArray[m]! ≠ zs.toArray[m - 1]! := by
          unfold Lib.keeps at hk
          rw [decide_eq_true_eq] at hk
          rcases hk with hk | hk
          · omega
          · exact hk
        have e1 := hs j (m - 1) (by omega) (by omega)
        have e2 := hs (m - 1) m (by omega) (by omega)
        omega
      · intro x hx
        simp only [List.mem_append, List.mem_singleton] at hx
        rcases hx with hx | rfl
        · obtain ⟨j, hj, e⟩ := h2 x hx; exact ⟨j, by omega, e⟩
        · exact ⟨m, by omega, rfl⟩
      · intro j hj
        simp only [List.mem_append, List.mem_singleton]
        by_cases hjm : j < m
        · exact .inl (h3 j hjm)
        · rw [show j = m by omega]; exact .inr rfl
    · rw [if_neg hk, List.append_nil]
      refine ⟨h1, fun x hx => ?_, fun j hj => ?_⟩
      · obtain ⟨j, hj, e⟩ := h2 x hx; exact ⟨j, by omega, e⟩
      · by_cases hjm : j < m
        · exact h3 j hjm
        · have hjm' : j = m := by omega
          subst hjm'
          unfold Lib.keeps at hk
          rw [decide_eq_true_eq] at hk
          have h0 : j ≠ 0 := fun h => hk (.inl h)
          have he : zs.toArray[j]! = zs.toArray[j - 1]! := by
            by_cases h : zs.toArray[j]! = zs.toArray[j - 1]!
            · exact h
            · exact absurd (.inr h) hk
          rw [he]; exact h3 (j - 1) (by omega)
theorem sortI_sorted (zs : List Int) : ∀ i j, i ≤ j → j < (sortI zs).length → (sortI zs).toArray[i]! ≤ (sortI zs).toArray[j]! := by
  intro i j hij hj
  have hp : (sortI zs).Pairwise (fun x y => decide (x ≤ y) = true) := List.pairwise_mergeSort (fun a b c h1 h2 => by simp at *; omega) (fun a b => by simp; omega) zs
  rcases Nat.lt_or_eq_of_le hij with h | rfl
  · have := (List.pairwise_iff_getElem.1 hp) i j (by omega) hj h
    simp only [decide_eq_true_eq] at this
    simpa [getElem!_pos, hj, show i < (sortI zs).length by omega] using this
  · exact Int.le_refl _
def specD (ln : List NodeD) (V : Nat) : List Int := ((List.range V).filter fun (v : Nat) => ln.any fun x => x.s.dec == (v : Int) + 1).map fun (v : Nat) => (v : Int) + 1
theorem specD_succ (ln : List NodeD) (V : Nat) : specD ln (V + 1) = specD ln V ++ if (ln.any fun x => x.s.dec == (V : Int) + 1) = true then [(V : Int) + 1] else [] := by
  unfold specD
  rw [List.range_succ, List.filter_append, List.map_append]
  congr 1
  by_cases h : (ln.any fun x => x.s.dec == (V : Int) + 1) = true
  · rw [if_pos h]; simp only [List.filter_cons, h]; simp
  · rw [if_neg h]; simp only [List.filter_cons, h]; simp
theorem specD_len (ln : List NodeD) (V : Nat) : (specD ln V).length ≤ V := by
  unfold specD
  rw [List.length_map]
  have := List.length_filter_le (fun v => ln.any fun x => x.s.dec == ((v : Nat) : Int) + 1) (List.range V)
  rw [List.length_range] at this
  exact this
theorem dec_eq {ln : List NodeD} {lp : List NMsgD} (h : netB ln lp = true) : Lib.compact (sortI (decL ln)) = specD ln 20 := by
  have hbd : ∀ x ∈ ln, x.s.dec ≤ 20 := by
    intro x hx
    simp only [netB, Bool.and_eq_true] at h
    have hall := h.2
    obtain ⟨i, hi⟩ := List.getElem?_of_mem hx
    cases hq : nodeAt lp i x
    · rw [allTo_no hi hq] at hall; cases hall
    · simp only [nodeAt, nodeB, Bool.and_eq_true, inB_iff] at hq
      omega
  obtain ⟨c1, c2, c3⟩ := compact_spec (sortI (decL ln)) (sortI_sorted _) _ (Nat.le_refl _)
  refine strict_eq _ _ c1 ?_ fun x => ?_
  · unfold specD
    rw [List.pairwise_map]
    refine List.Pairwise.imp (fun h => by omega) (List.Pairwise.filter _ (List.pairwise_lt_range))
  · have hm : x ∈ Lib.compact (sortI (decL ln)) ↔ x ∈ decL ln := by
      have hs : x ∈ sortI (decL ln) ↔ x ∈ decL ln := by unfold sortI; exact List.mem_mergeSort
      rw [← hs]
      constructor
      · intro hx
        obtain ⟨j, hj, e⟩ := c2 x hx
        rw [← e]
        simp [getElem!_pos, hj]
      · intro hx
        obtain ⟨j, hj, e⟩ := List.mem_iff_getElem.1 hx
        have := c3 j hj
        have e2 : (sortI (decL ln)).toArray[j]! = x := by simp [getElem!_pos, hj, e]
        rw [e2] at this; exact this
    rw [hm]
    unfold decL specD
    simp only [List.mem_map, List.mem_filter, decide_eq_true_eq, List.mem_range, List.any_eq_true, beq_iff_eq]
    constructor
    · rintro ⟨y, ⟨hy, h0⟩, rfl⟩
      have := hbd y hy
      exact ⟨(y.s.dec - 1).toNat, ⟨by omega, y, hy, by omega⟩, by omega⟩
    · rintro ⟨v, ⟨hv, y, hy, e⟩, rfl⟩
      exact ⟨y, ⟨hy, by omega⟩, e⟩

set_option maxRecDepth 100000 in
set_option maxHeartbeats 1000000 in
theorem sDecisions_any (A : Option Addr) (n c : Nat) (P : Option Addr) (p d : Nat) (ln : List NodeD) (lp : List NMsgD) (w : World) (hl : NodesRd w w.heap.size A n c ln) (hp : RdL msgC 5 w w.heap.size P p d lp) :
    Calls Try.prog 36 #[.agg #[.slice A n c, .slice P p d]] w (DecOut (decsL ln lp) w) := by
  obtain ⟨i0, hi, hz0, hz1, hz2⟩ := info_parts infoInt
  have hln : ln.length = n := by obtain ⟨_, _, h, _⟩ := hl; exact h
  subst hln
  have hn := hl.le
  have HL := Lib.hid hl
  have HP := Lib.hid hp
  clear hl hp
  cases hN : netB ln lp
  · have HE : Hid (decsL ln lp = []) := by show _ = _; unfold decsL; rw [hN]; rfl
    have HN := Lib.hid hN
    clear hN
    go_enter Try.func36, Try.ntmps36
    go_wp2_with fail
    go_loopw [3, 4] (fun o i wr => wr = (w.alloc (.cells #[.slice A ln.length c, .slice P p d] 41)).alloc (.cells #[] 3) ∧ i = .int .i64 1 ∧ wr.ownsRow w.heap.size 3 1 o 0 []) (fun _ _ _ => 0)
    case atStart => exact ⟨by simp, rfl, by have := World.ownsRow_lit (w.alloc (.cells #[.slice A ln.length c, .slice P p d] 41)) (base := w.heap.size) (e := 3) (size := 1) #[] 0 (by simp) (by decide) rfl; simpa using this⟩
    case round =>
      obtain ⟨rfl, rfl, hown⟩ := hrel
      have HO := Lib.hid hown
      clear hown
      have h20 : decide ((1 : Int) ≤ 20) = true := by decide
      go_wp2_with fail
      refine (sNetOk_any A ln.length c P p d ln lp _ (by exact ((HL.out.alloc (Nat.le_refl _) _).alloc (by simp) _).more (by simp; omega)) (by exact ((HP.out.alloc (Nat.le_refl _) _).alloc (by simp) _).more (by simp; omega))).mono ?_
      rw [HN.out]
      rintro e w1 ⟨rfl, hb⟩
      have HW : Hid (Below w.heap.size w w1) := Below.trans (((Below.refl _ _).alloc (Nat.le_refl _) _).alloc (by simp) _) (hb.mono (by simp; omega))
      have HO1 := Lib.hid (own_keep HO.out hb (Nat.le_refl _))
      clear hb
      obtain ⟨A1, c1, rfl, ho⟩ := OwnL.of_own (f := intC) (l := []) rfl HO1.out
      have HOL := Lib.hid ho
      clear ho
      go_wp2_with fail
      go_ret
      rw [HE.out]
      exact ⟨A1, c1, rfl, HOL.out, HW.out⟩
  have hn3 : ln.length = 3 := by simp only [netB, Bool.and_eq_true, decide_eq_true_eq] at hN; exact hN.1.1
  have HN3 := Lib.hid hn3
  have HE : Hid (decsL ln lp = specD ln 20) := by show _ = _; unfold decsL; rw [hN, if_pos rfl]; exact dec_eq hN
  have HN := Lib.hid hN
  clear hN hn3
  go_enter Try.func36, Try.ntmps36
  go_wp2_with fail
  go_loopw [3, 4] (fun o i wr => ∃ V : Nat, V ≤ 20 ∧ i = .int .i64 ((V : Int) + 1) ∧ w.heap.size < wr.heap.size ∧ wr.cell? ⟨w.heap.size, 0, none⟩ = some (.slice A ln.length c) ∧ wr.cell? ⟨w.heap.size, 1, none⟩ = some (.slice P p d) ∧
      wr.ownsRow (w.heap.size + 1) 3 1 o (specD ln V).length ((specD ln V).flatMap intC) ∧ Below w.heap.size w wr) (fun _ i _ => 21 - (intOf i).toNat)
  case atStart => exact ⟨0, by omega, rfl, by simp; omega, by simp, by simp, by have := World.ownsRow_lit (w.alloc (.cells #[.slice A ln.length c, .slice P p d] 41)) (base := w.heap.size + 1) (e := 3) (size := 1) #[] 0 (by simp) (by decide) rfl; simpa [specD] using this, (by repeat (first | exact Below.refl _ _ | assumption | refine Below.drew ?_ | refine belN ?_ _ | refine Below.alloc ?_ (by first | exact Nat.le_refl _ | (simp; done) | (simp; omega) | omega) _ | refine Below.setCell ?_ (by first | exact Nat.le_refl _ | (simp; done) | (simp; omega) | omega) _ | refine Below.trans ?_ (Below.mono (by assumption) (by first | exact Nat.le_refl _ | (simp; done) | (simp; omega) | omega))))⟩
  case round =>
    obtain ⟨V, hV, rfl, hz, x0, x1, hown, hb⟩ := hrel
    obtain ⟨wo, rfl⟩ : ∃ wo : World, wo = wr := ⟨_, rfl⟩
    have HO := Lib.hid hown
    have HB := Lib.hid hb
    clear hown hb
    have hsl := specD_len ln V
    by_cases hVn : V < 20
    · have hVb : decide ((V : Int) + 1 ≤ 20) = true := decide_eq_true (by omega)
      go_wp2_with fail
      refine (sNetOk_any A ln.length c P p d ln lp _ (by exact (HL.out.below HB.out (Nat.le_refl _)).more HB.out.size) (by exact (HP.out.below HB.out (Nat.le_refl _)).more HB.out.size)).mono ?_
      rw [HN.out]
      rintro e w1 ⟨rfl, hb⟩
      have y0 := (hb.cell (p := ⟨w.heap.size, 0, none⟩) hz).trans x0
      have y1 := (hb.cell (p := ⟨w.heap.size, 1, none⟩) hz).trans x1
      have hzq : wo.heap.size ≤ w1.heap.size := hb.size
      have hzw : w.heap.size < w1.heap.size := by omega
      have HO1 := Lib.hid (own_keep HO.out hb (Nat.le_refl _))
      have HB1 := Lib.hid (HB.out.trans (hb.mono HB.out.size))
      clear hb x0 x1
      go_wp2_with fail
      go_loopw [5, 6] (fun q i wr => ∃ j : Nat, j ≤ 3 ∧ i = .int .i64 j ∧ q = .bool ((ln.take j).any fun x => x.s.dec == (V : Int) + 1) ∧ wr = w1) (fun _ i _ => 3 - (intOf i).toNat)
      case atStart => exact ⟨0, by omega, rfl, by simp, rfl⟩
      case round =>
        obtain ⟨j, hj, rfl, rfl, rfl⟩ := hrel
        by_cases hj3 : j < 3
        · have hjl : j < ln.length := by have := HN3.out; omega
          obtain ⟨b, off, s, A1, n1, c1, l, rfl, hb1, hx, hr, c0, c1', c2, c3, c4, c5, c6, c7, c8, c9⟩ := (HL.out.below HB1.out (Nat.le_refl _)).at_ hjl
          have HX : Hid (((ln.take (j + 1)).any fun x => x.s.dec == (V : Int) + 1) = (((ln.take j).any fun x => x.s.dec == (V : Int) + 1) || (s.dec == (V : Int) + 1))) := by show _ = _; rw [take_next' hx, List.any_append]; simp
          have hbl : b < wr.heap.size := by omega
          clear hx hr
          generalize ((ln.take j).any fun x => x.s.dec == (V : Int) + 1) = q0 at *
          cases q0
          · cases hd : (s.dec == (V : Int) + 1)
            · go_wp2
              go_roundw
              case rel => exact ⟨j + 1, by omega, by go_num, by rw [HX.out, hd]; rfl, trivial⟩
              case measure => simp [intOf]; omega
            · go_wp2
              go_roundw
              case rel => exact ⟨j + 1, by omega, by go_num, by rw [HX.out, hd]; rfl, trivial⟩
              case measure => simp [intOf]; omega
          · go_wp2
            go_roundw
            case rel => exact ⟨j + 1, by omega, by go_num, by rw [HX.out]; rfl, trivial⟩
            case measure => simp [intOf]; omega
        · obtain rfl : j = 3 := by omega
          have hall : ln.take 3 = ln := List.take_of_length_le (by have := HN3.out; omega)
          rw [hall]
          have HS := Lib.hid (specD_succ ln V)
          cases hq : (ln.any fun x => x.s.dec == (V : Int) + 1)
          · have HG : Hid (specD ln (V + 1) = specD ln V) := by show _ = _; rw [HS.out, hq]; simp
            go_wp2
            go_roundw
            case rel => exact ⟨V + 1, by omega, by go_num, hzw, y0, y1, by rw [HG.out]; exact HO1.out, HB1.out⟩
            case measure => simp [intOf]; omega
          · have HG : Hid (specD ln (V + 1) = specD ln V ++ [(V : Int) + 1]) := by show _ = _; rw [HS.out, hq]; simp
            generalize hfs : specD ln V = fs at *
            go_wp2_with (at_builtin; go_must (refine wpList_app_rd _ rfl _ _ _ rfl (w.heap.size + 1) 3 i0 _ 1 8 Try.underlying53 hi hz0 hz1 hz2 rfl (by decide) _ _ _ rfl (by exact HO1.out.alloc _) _ _ 1 1 _ rfl (by exact (Rd_oneI _ #[.int .i64 ((V : Int) + 1)] 3 1 rfl _ (by simp))) (by simp [Value.oneCell']) (by unfold maxLen; omega) (by omega) (by first | with_reducible exact Nat.le_refl _ | (simp; done) | omega | (simp; omega)) ?_))
            intro v' w2 hown' hgrow _
            have hg2 : Chg (w.heap.size + 1) wr.heap.size wr w2 := ((Chg.refl _ _ wr).alloc _).trans (grown_chg (lo := w.heap.size + 1) (hi := wr.heap.size) hgrow (fun g hg => HO1.out.lt g hg))
            have HG2 := Lib.hid hg2
            have k0 := (hg2.cell hzw (.inl (by omega))).trans y0
            have k1 := (hg2.cell hzw (.inl (by omega))).trans y1
            have hz2' : w.heap.size < w2.heap.size := by have := hg2.size; omega
            have HO2 := Lib.hid hown'
            clear hown' hgrow hg2
            go_wp2
            go_roundw
            case rel => exact ⟨V + 1, by omega, by go_num, hz2', k0, k1, by rw [HG.out]; simpa [intC] using HO2.out, HB1.out.trans (HG2.out.below (by omega) (by omega))⟩
            case measure => simp [intOf]; omega
    · obtain rfl : V = 20 := by omega
      obtain ⟨A1, c1, rfl, ho⟩ := OwnL.of_own rfl HO.out
      have HOL := Lib.hid ho
      clear ho
      go_wp2
      go_ret
      rw [HE.out]
      exact ⟨A1, c1, rfl, HOL.out.wide (by omega) (Nat.le_refl _), HB.out⟩
def agreedB (ln : List NodeD) (lp : List NMsgD) : Bool := netB ln lp && decide (((decsL ln lp).length : Int) ≤ 1)
end Go.Proofs.Ytbadfamoiccppaa
