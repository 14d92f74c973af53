/- Blame of the program and of the reference. -/
import Derived.Test.YteaggbbimhpolaaDoorFindEvid
import Derived.Test.YteaggbbimhpolaaDoorSortI
import Derived.WalkKit
import Derived.WalkSpells
import Derived.WalkLawsBesides
import Derived.Lib.Hide
namespace Go.Proofs.YteaggbbimhpolaaDoor
open Go.RowKit

def blB (l : List SVoteD) (v : Int) : Bool := (feL l v).isSome
def blR (l : List SVoteD) (k : Nat) : List Int := ((l.take k).filter fun a => blB l a.v).map fun a => a.v
def blL (l : List SVoteD) : List Int := Lib.compact (sortI (blR l l.length))
def blS (l : List SVoteD) (V : Nat) : List Int := ((List.range V).filter fun (v : Nat) => blB l ((v : Int) + 1)).map fun (v : Nat) => (v : Int) + 1
theorem blR_len (l : List SVoteD) (k : Nat) : (blR l k).length ≤ k := by
  unfold blR
  rw [List.length_map]
  have h1 := List.length_filter_le (fun a : SVoteD => blB l a.v) (l.take k)
  have h2 := List.length_take_le k l
  omega
theorem blR_next {l : List SVoteD} {k : Nat} {x : SVoteD} (h : l[k]? = some x) : blR l (k + 1) = blR l k ++ if blB l x.v = true then [x.v] else [] := by
  unfold blR
  rw [take_next' h, List.filter_append, List.map_append]
  congr 1
  by_cases h : blB l x.v = true <;> simp [h]
theorem blS_len (l : List SVoteD) (V : Nat) : (blS l V).length ≤ V := by
  unfold blS
  rw [List.length_map]
  have := List.length_filter_le (fun (v : Nat) => blB l ((v : Int) + 1)) (List.range V)
  rw [List.length_range] at this
  exact this
theorem blS_succ (l : List SVoteD) (V : Nat) : blS l (V + 1) = blS l V ++ if blB l ((V : Int) + 1) = true then [(V : Int) + 1] else [] := by
  unfold blS
  rw [List.range_succ, List.filter_append, List.map_append]
  congr 1
  by_cases h : blB l ((V : Int) + 1) = true <;> simp [h]
/-- what stands behind a blame -/
theorem feL_some {v : Int} : ∀ {l : List SVoteD} {e : EvD}, feL l v = some e → ∃ a ∈ l, ∃ b ∈ l, a.v = v ∧ e = evOf a b ∧ evB (evOf a b) = true
  | [], e, h => by cases h
  | a :: l, e, h => by
    unfold feL at h
    split at h
    · rename_i hv
      rw [beq_iff_eq] at hv
      cases hi : feIn a l with
      | some e' =>
        rw [hi] at h
        simp only [Option.some_or, Option.some.injEq] at h
        subst h
        unfold feIn at hi
        obtain ⟨b, hb, rfl⟩ := Option.map_eq_some_iff.1 hi
        exact ⟨a, by simp, b, by simp [List.mem_of_find?_eq_some hb], hv, rfl, by have h := List.find?_some hb; exact h⟩
      | none =>
        rw [hi] at h
        simp only [Option.none_or] at h
        obtain ⟨a', h1, b, h2, h3⟩ := feL_some h
        exact ⟨a', by simp [h1], b, by simp [h2], h3⟩
    · obtain ⟨a', h1, b, h2, h3⟩ := feL_some h
      exact ⟨a', by simp [h1], b, by simp [h2], h3⟩
theorem signed_val {p : VoteD} {s : ByteArray} (h : signedB p s = true) : 1 ≤ p.v ∧ p.v ≤ 99 := by
  simp only [signedB, voteOkB, voteB, Bool.and_eq_true, inB_iff] at h
  exact h.1.2
theorem blB_val {l : List SVoteD} {v : Int} (h : blB l v = true) : (∃ a ∈ l, a.v = v) ∧ 1 ≤ v ∧ v ≤ 99 := by
  unfold blB at h
  obtain ⟨e, he⟩ := Option.isSome_iff_exists.1 h
  obtain ⟨a, ha, b, _, rfl, rfl, hev⟩ := feL_some he
  simp only [evB, Bool.and_eq_true] at hev
  exact ⟨⟨a, ha, rfl⟩, signed_val hev.1⟩
theorem bl_eq (l : List SVoteD) : blL l = blS l 99 := by
  have hl := sortI_len (blR l l.length)
  obtain ⟨h1, h2, h3⟩ := compact_spec (sortI (blR l l.length)) (sortI_sorted _) (sortI (blR l l.length)).length (Nat.le_refl _)
  have mem : ∀ x, x ∈ sortI (blR l l.length) ↔ x ∈ blR l l.length := fun x => by unfold sortI; exact List.mem_mergeSort
  refine strict_eq _ _ h1 ?_ fun x => ?_
  · unfold blS
    rw [List.pairwise_map]
    refine List.Pairwise.imp_of_mem ?_ ((List.pairwise_lt_range (n := 99)).filter _)
    intro a b _ _ hab
    omega
  · have e1 : x ∈ Lib.compactUpTo (sortI (blR l l.length)).toArray (sortI (blR l l.length)).length ↔ x ∈ blR l l.length := by
      rw [← mem x]
      constructor
      · intro hx
        obtain ⟨j, hj, rfl⟩ := h2 x hx
        simp [hj]
      · intro hx
        obtain ⟨j, hj⟩ := List.mem_iff_getElem?.1 hx
        obtain ⟨hlt, he⟩ := List.getElem?_eq_some_iff.1 hj
        have := h3 j hlt
        simpa [hlt, he] using this
    refine Iff.trans (show x ∈ blL l ↔ x ∈ blR l l.length from e1) ?_
    unfold blR blS
    rw [List.take_length]
    simp only [List.mem_map, List.mem_filter, List.mem_range]
    constructor
    · rintro ⟨a, ⟨ha, hb⟩, rfl⟩
      have := (blB_val hb).2
      exact ⟨(a.v - 1).toNat, ⟨by omega, by rw [show (((a.v - 1).toNat : Nat) : Int) + 1 = a.v by omega]; exact hb⟩, by omega⟩
    · rintro ⟨v, ⟨hv, hb⟩, rfl⟩
      obtain ⟨⟨a, ha, e⟩, _⟩ := blB_val hb
      exact ⟨a, ⟨ha, by rw [e]; exact hb⟩, e⟩

def BlOut (l : List Int) (w : World) (e : Ending) (w' : World) : Prop :=
  ∃ A c, e = .returned (.slice A l.length c) ∧ OwnL intC 1 3 w' w.heap.size w'.heap.size A l.length c l ∧ Below w.heap.size w w'

set_option maxRecDepth 100000 in
set_option maxHeartbeats 2000000 in
theorem Blame_any (A : Option Addr) (n c : Nat) (l : List SVoteD) (w : World) (hl : RdL svtC 6 w w.heap.size A n c l) (hn : n ≤ 1048576) (ht : Tab w) :
    Calls Tryd.prog 21 #[.slice A n c] w (BlOut (blL l) w) := by
  obtain ⟨i0, hi, hz0, hz1, hz2⟩ := info_parts infoInt
  have HL := Lib.hid hl
  have HT := Lib.hid ht
  have H0 := Lib.hid hl.1
  clear hl ht
  go_enter Tryd.func21, Tryd.ntmps21
  go_wp2_with fail
  go_loopw [3, 11] (fun o i wr => ∃ k : Nat, k ≤ n ∧ i = .int .i64 k ∧ wr.ownsRow w.heap.size 3 1 o (blR l k).length ((blR l k).flatMap intC) ∧ Below w.heap.size w wr) (fun _ i _ => n - (intOf i).toNat)
  case atStart => exact ⟨0, by omega, rfl, by simpa [blR] using World.ownsRow_lit w #[] 0 (Nat.le_refl _) (by decide) rfl, (by repeat (first | exact Below.refl _ _ | assumption | refine Below.drew ?_ | refine belN ?_ _ | refine Below.alloc ?_ (by first | exact Nat.le_refl _ | (simp; done) | (simp; omega) | omega) _ | refine Below.setCell ?_ (by first | exact Nat.le_refl _ | (simp; done) | (simp; omega) | omega) _ | refine Below.trans ?_ (Below.mono (by assumption) (by first | exact Nat.le_refl _ | (simp; done) | (simp; omega) | omega))))⟩
  case round =>
    obtain ⟨k, hk, rfl, hown, hb⟩ := hrel
    have HO := Lib.hid hown; clear hown
    have hz : w.heap.size ≤ wr.heap.size := hb.size
    have HB := Lib.hid hb
    have hbl := blR_len l k
    clear hb
    by_cases hkn : k < n
    · obtain ⟨b, off, p, rfl, hb1, hp, c0, c1, c2, c3, c4, c5⟩ := svt_cells (HL.out.below HB.out (Nat.le_refl _)) hkn
      have HS := Lib.hid (blR_next hp)
      clear hp
      go_upto_region 5 with fail
      obtain ⟨w1, hw1⟩ : ∃ q, q = wr.alloc (.cells #[.int .i64 p.h, .int .i64 p.r, .int .i64 p.st, .string p.id, .int .i64 p.v, .string p.sig] 32) := ⟨_, rfl⟩
      rw [← hw1]
      have HB1 : Hid (Below w.heap.size w w1) := by show Below _ _ _; rw [hw1]; exact HB.out.alloc hz _
      have ho1 := HO.out.alloc (.cells #[.int .i64 p.h, .int .i64 p.r, .int .i64 p.st, .string p.id, .int .i64 p.v, .string p.sig] 32)
      rw [← hw1] at ho1
      have HO1 := Lib.hid ho1
      clear ho1
      have hbk : Blk w1 wr.heap.size 32 #[.int .i64 p.h, .int .i64 p.r, .int .i64 p.st, .string p.id, .int .i64 p.v, .string p.sig] := by rw [hw1]; exact heap_alloc_new wr _
      have x4 := hbk.cell 4
      have hs1 := hbk.lt
      have HBK := Lib.hid hbk
      clear hw1 c0 c1 c2 c3 c4 c5 hbk
      go_wp2_with fail
      refine (FindEvid_any _ n c l p.v _ ((HL.out.below HB1.out (Nat.le_refl _)).more HB1.out.size) (HT.out.below HB1.out HT.out.pos)).mono ?_
      rintro e w2 ⟨rfl, hb⟩
      have HB2 := Lib.hid (HB1.out.trans (hb.mono (by omega)))
      have HO2 := Lib.hid (own_keep HO1.out hb (Nat.le_refl _))
      have y4 := (hb.cell (p := ⟨wr.heap.size, 4, none⟩) hs1).trans x4
      have hs2 := hb.size
      have hys : wr.heap.size < w2.heap.size := by omega
      have hwz : w.heap.size ≤ w2.heap.size := by omega
      clear hb x4
      generalize hg : evG (feL l p.v) = g
      clear hg
      generalize hgb : (feL l p.v).isSome = q
      have HQ : Hid (blB l p.v = q) := Lib.hid hgb
      clear hgb
      generalize hfs : blR l k = fs at *
      clear hfs
      cases q
      · have HG : Hid (blR l (k + 1) = fs) := by show _ = _; rw [HS.out, HQ.out]; simp
        go_wp2_with fail
        go_roundw
        case rel => exact ⟨k + 1, by omega, by go_num, by rw [HG.out]; exact HO2.out.alloc _, HB2.out.alloc hwz _⟩
        case measure => simp [intOf]; omega
      · have HG : Hid (blR l (k + 1) = fs ++ [p.v]) := by show _ = _; rw [HS.out, HQ.out]; simp
        go_wp2_with (at_builtin; go_must (refine wpList_app_rd _ rfl _ _ _ rfl w.heap.size 3 i0 _ 1 8 Tryd.underlying47 hi hz0 hz1 hz2 rfl (by decide) _ _ _ rfl (by exact (HO2.out.alloc _).alloc _) _ _ 1 1 _ rfl (by exact (Rd_oneI _ #[.int .i64 p.v] 3 1 rfl _ (by simp))) (by simp [Value.oneCell']) (by unfold maxLen; omega) (by omega) (by first | with_reducible exact Nat.le_refl _ | (simp; done) | (simp; omega)) ?_))
        intro v' w3 hown' hgrow _
        have HB3 := Lib.hid (((HB2.out.alloc hwz _).alloc (by simp; omega) _).grown hgrow (by simp; omega) (fun g hg => (HO2.out.lt g hg).1))
        have HO3 := Lib.hid hown'
        clear hown' hgrow
        go_wp2
        go_roundw
        case rel => exact ⟨k + 1, by omega, by go_num, by rw [HG.out]; simpa [intC] using HO3.out, HB3.out⟩
        case measure => simp [intOf]; omega
    · obtain rfl : k = n := by omega
      have HE : Hid (blL l = Lib.compact (sortI (blR l k))) := by show _ = _; unfold blL; rw [H0.out]
      generalize blR l k = fs at *
      go_wp2_with fail
      refine (Sort_own w.heap.size _ fs _ HO.out (by omega)).mono ?_
      rintro e w2 ⟨rfl, ho2, hg2⟩
      have HB2 := Lib.hid (HB.out.grown hg2 (by omega) (fun g hg => (HO.out.lt g hg).1))
      rw [← sortI_len fs] at ho2
      have HO2 := Lib.hid ho2
      have hl2 := sortI_len fs
      clear ho2 hg2
      go_wp2_with fail
      refine (Compact_own w.heap.size _ (sortI fs) _ HO2.out (by omega)).mono ?_
      rintro e w3 ⟨v', rfl, ho3, hg3⟩
      have HB3 := Lib.hid (HB2.out.grown hg3 (by have := HB2.out.size; omega) (fun g hg => (HO2.out.lt g hg).1))
      obtain ⟨A3, c3', rfl, ho⟩ := OwnL.of_own rfl ho3
      have HO3 := Lib.hid ho
      clear ho3 hg3 ho
      go_wp2_with fail
      go_ret
      rw [HE.out]
      exact ⟨A3, c3', rfl, HO3.out, HB3.out⟩

set_option maxRecDepth 100000 in
set_option maxHeartbeats 2000000 in
theorem sBlame_any (A : Option Addr) (n c : Nat) (l : List SVoteD) (w : World) (hl : RdL svtC 6 w w.heap.size A n c l) :
    Calls Tryd.prog 20 #[.slice A n c] w (BlOut (blS l 99) w) := by
  obtain ⟨i0, hi, hz0, hz1, hz2⟩ := info_parts infoInt
  have HL := Lib.hid hl
  clear hl
  go_enter Tryd.func20, Tryd.ntmps20
  go_wp2_with fail
  go_loopw [3, 4] (fun o i wr => ∃ k : Nat, k ≤ 99 ∧ i = .int .i64 ((k : Int) + 1) ∧ wr.ownsRow w.heap.size 3 1 o (blS l k).length ((blS l k).flatMap intC) ∧ Below w.heap.size w wr) (fun _ i _ => 100 - (intOf i).toNat)
  case atStart => exact ⟨0, by omega, rfl, by simpa [blS] using World.ownsRow_lit w #[] 0 (Nat.le_refl _) (by decide) rfl, (by repeat (first | exact Below.refl _ _ | assumption | refine Below.drew ?_ | refine belN ?_ _ | refine Below.alloc ?_ (by first | exact Nat.le_refl _ | (simp; done) | (simp; omega) | omega) _ | refine Below.setCell ?_ (by first | exact Nat.le_refl _ | (simp; done) | (simp; omega) | omega) _ | refine Below.trans ?_ (Below.mono (by assumption) (by first | exact Nat.le_refl _ | (simp; done) | (simp; omega) | omega))))⟩
  case round =>
    obtain ⟨k, hk, rfl, hown, hb⟩ := hrel
    have HO := Lib.hid hown; clear hown
    have hz : w.heap.size ≤ wr.heap.size := hb.size
    have HB := Lib.hid hb
    have hbl := blS_len l k
    clear hb
    by_cases hkn : k < 99
    · have HS := Lib.hid (blS_succ l k)
      go_wp2_with fail
      refine (sFindEvid_any _ n c l ((k : Int) + 1) _ ((HL.out.below HB.out (Nat.le_refl _)).more HB.out.size)).mono ?_
      rintro e w2 ⟨rfl, hb⟩
      have HB2 := Lib.hid (HB.out.trans (hb.mono (by omega)))
      have HO2 := Lib.hid (own_keep HO.out hb (Nat.le_refl _))
      have hs2 := hb.size
      have hwz : w.heap.size ≤ w2.heap.size := by omega
      clear hb
      generalize hg : evG (feL l ((k : Int) + 1)) = g
      clear hg
      generalize hgb : (feL l ((k : Int) + 1)).isSome = q
      have HQ : Hid (blB l ((k : Int) + 1) = q) := Lib.hid hgb
      clear hgb
      generalize hfs : blS l k = fs at *
      clear hfs
      cases q
      · have HG : Hid (blS l (k + 1) = fs) := by show _ = _; rw [HS.out, HQ.out]; simp
        go_wp2_with fail
        go_roundw
        case rel => exact ⟨k + 1, by omega, by go_num, by rw [HG.out]; exact HO2.out.alloc _, HB2.out.alloc hwz _⟩
        case measure => simp [intOf]; omega
      · have HG : Hid (blS l (k + 1) = fs ++ [(k : Int) + 1]) := by show _ = _; rw [HS.out, HQ.out]; simp
        go_wp2_with (at_builtin; go_must (refine wpList_app_rd _ rfl _ _ _ rfl w.heap.size 3 i0 _ 1 8 Tryd.underlying47 hi hz0 hz1 hz2 rfl (by decide) _ _ _ rfl (by exact (HO2.out.alloc _).alloc _) _ _ 1 1 _ rfl (by exact (Rd_oneI _ #[.int .i64 ((k : Int) + 1)] 3 1 rfl _ (by simp))) (by simp [Value.oneCell']) (by unfold maxLen; omega) (by omega) (by first | with_reducible exact Nat.le_refl _ | (simp; done) | (simp; omega)) ?_))
        intro v' w3 hown' hgrow _
        have HB3 := Lib.hid (((HB2.out.alloc hwz _).alloc (by simp; omega) _).grown hgrow (by simp; omega) (fun g hg => (HO2.out.lt g hg).1))
        have HO3 := Lib.hid hown'
        clear hown' hgrow
        go_wp2
        go_roundw
        case rel => exact ⟨k + 1, by omega, by go_num, by rw [HG.out]; simpa [intC] using HO3.out, HB3.out⟩
        case measure => simp [intOf]; omega
    · obtain rfl : k = 99 := by omega
      obtain ⟨A3, c3', rfl, ho⟩ := OwnL.of_own rfl HO.out
      go_wp2_with fail
      go_ret
      exact ⟨A3, c3', rfl, ho, HB.out⟩
end Go.Proofs.YteaggbbimhpolaaDoor
