/- FindEvid of the program and of the reference (printed by wip/fe.py, then edited by hand). -/
import Derived.Test.YteaggbbimhpolaaDoorFamSVote
import Derived.WalkKit
import Derived.WalkSpells
import Derived.WalkLawsBesides
import Derived.Lib.Hide
namespace Go.Proofs.YteaggbbimhpolaaDoor
open Go.RowKit

theorem drop_next {α : Type} {l : List α} {k : Nat} {x : α} (h : l[k]? = some x) : l.drop k = x :: l.drop (k + 1) := by
  obtain ⟨hk, rfl⟩ := List.getElem?_eq_some_iff.1 h
  exact List.drop_eq_getElem_cons hk
theorem RdL.drop {α : Type} {f : α → List Value} {w : World} {B n c size b off : Nat} {l : List α} (hf : ∀ x, (f x).length = size) (h : RdL f size w B (some ⟨b, off, none⟩) n c l) {k : Nat} (hk : k ≤ n) : RdL f size w B (some ⟨b, off + k * size, none⟩) (n - k) (c - k) (l.drop k) := by
  obtain ⟨h1, h2, h3, h4, h5⟩ := h
  have hl : (l.drop k).length = n - k := by rw [List.length_drop]; omega
  refine ⟨hl, by rw [flat_len f size _ (fun x _ => hf x), hl], by omega, by omega, fun hn => ?_⟩
  obtain ⟨b', off', e, hb, hc⟩ := h5 (by omega)
  simp only [Option.some.injEq, Addr.mk.injEq, and_true] at e
  obtain ⟨rfl, rfl⟩ := e
  refine ⟨b, off + k * size, rfl, hb, fun j hj => ?_⟩
  have hm : k * size + j < n * size := by
    have : (n - k) * size = n * size - k * size := Nat.sub_mul _ _ _
    omega
  rw [Nat.add_assoc, hc _ hm]
  have hsp : l.flatMap f = (l.take k).flatMap f ++ (l.drop k).flatMap f := by rw [← List.flatMap_append, List.take_append_drop]
  have ht : ((l.take k).flatMap f).length = k * size := by rw [flat_len f size _ (fun x _ => hf x), List.length_take]; congr 1; omega
  rw [hsp, List.getElem?_append_right (by omega), ht]
  congr 1; omega

theorem RdL.none_ {α : Type} {f : α → List Value} {w : World} {B size m : Nat} {A : Option Addr} {l : List α} (hl : l.length = m) (h0 : m = 0) : RdL f size w B A m 0 l := by
  subst h0
  obtain rfl := List.eq_nil_of_length_eq_zero hl
  exact ⟨rfl, by simp, Nat.le_refl _, Nat.zero_le _, fun h => absurd h (by omega)⟩

def evOf (a b : SVoteD) : EvD := ⟨⟨a.h, a.r, a.st, a.id, a.v⟩, a.sig, ⟨b.h, b.r, b.st, b.id, b.v⟩, b.sig⟩
def feIn (a : SVoteD) (l : List SVoteD) : Option EvD := (l.find? fun b => evB (evOf a b)).map (evOf a)
def feL : List SVoteD → Int → Option EvD
  | [], _ => none
  | a :: l, val => if (a.v == val) = true then (feIn a l).or (feL l val) else feL l val
def evZ : EvD := ⟨⟨0, 0, 0, ⟨#[]⟩, 0⟩, ⟨#[]⟩, ⟨0, 0, 0, ⟨#[]⟩, 0⟩, ⟨#[]⟩⟩
def evG (o : Option EvD) : EvD := o.getD evZ
theorem feL_no {l : List SVoteD} {k : Nat} {x : SVoteD} {val : Int} (hk : l[k]? = some x) (h : (x.v == val) = false) : feL (l.drop k) val = feL (l.drop (k + 1)) val := by
  rw [drop_next hk]; simp [feL, h]
theorem feIn_no {l : List SVoteD} {j : Nat} {p y : SVoteD} (hy : l[j]? = some y) (h : evB (evOf p y) = false) : feIn p (l.drop j) = feIn p (l.drop (j + 1)) := by
  rw [drop_next hy]; simp [feIn, h]
theorem fe_hit {l : List SVoteD} {k j : Nat} {p y : SVoteD} {val : Int} (hp : l[k]? = some p) (hv : (p.v == val) = true) (hi : feIn p (l.drop (k + 1)) = feIn p (l.drop j)) (hy : l[j]? = some y) (h : evB (evOf p y) = true) : feL (l.drop k) val = some (evOf p y) := by
  have e : feIn p (l.drop j) = some (evOf p y) := by rw [drop_next hy]; simp [feIn, h]
  rw [drop_next hp]; simp only [feL, hv, if_true]; rw [hi, e]; rfl
theorem fe_end {l : List SVoteD} {k j : Nat} {p : SVoteD} {val : Int} (hp : l[k]? = some p) (hv : (p.v == val) = true) (hi : feIn p (l.drop (k + 1)) = feIn p (l.drop j)) (hj : l.length ≤ j) : feL (l.drop k) val = feL (l.drop (k + 1)) val := by
  have e : feIn p (l.drop j) = none := by rw [List.drop_eq_nil_of_le hj]; rfl
  rw [drop_next hp]; simp only [feL, hv, if_true]; rw [hi, e]; rfl
theorem fe_none {l : List SVoteD} {k : Nat} {val : Int} (hk : l.length ≤ k) : feL (l.drop k) val = none := by rw [List.drop_eq_nil_of_le hk]; rfl

set_option maxHeartbeats 4000000 in
theorem FindEvid_any (A : Option Addr) (n c : Nat) (l : List SVoteD) (val : Int) (w : World) (hl : RdL svtC 6 w w.heap.size A n c l) (ht : Tab w) :
    Calls Tryd.prog 17 #[.slice A n c, .int .i64 val] w fun e w' => e = .returned (.tuple #[.agg #[.int .i64 (evG (feL l val)).a.h, .int .i64 (evG (feL l val)).a.r, .int .i64 (evG (feL l val)).a.st, .string (evG (feL l val)).a.id, .int .i64 (evG (feL l val)).a.v, .string (evG (feL l val)).sa, .int .i64 (evG (feL l val)).b.h, .int .i64 (evG (feL l val)).b.r, .int .i64 (evG (feL l val)).b.st, .string (evG (feL l val)).b.id, .int .i64 (evG (feL l val)).b.v, .string (evG (feL l val)).sb], .bool (feL l val).isSome]) ∧ Below w.heap.size w w' := by
  have hn := hl.le
  have HL := Lib.hid hl
  have H0 := Lib.hid hl.1
  have HT := Lib.hid ht
  clear ht
  clear hl
  go_enter Tryd.func17, Tryd.ntmps17
  go_wp2_with fail
  go_loopw [13] (fun i wr => ∃ k : Nat, k ≤ n ∧ i = .int .i64 k ∧ Below (w.heap.size + 1) (w.alloc (.cells #[.int .i64 0, .int .i64 0, .int .i64 0, .string ⟨#[]⟩, .int .i64 0, .string ⟨#[]⟩, .int .i64 0, .int .i64 0, .int .i64 0, .string ⟨#[]⟩, .int .i64 0, .string ⟨#[]⟩] 34)) wr ∧ feL l val = feL (l.drop k) val) (fun i _ => n - (intOf i).toNat)
  case atStart => exact ⟨0, by omega, rfl, Below.refl _ _, rfl⟩
  case round =>
    obtain ⟨k, hk, rfl, hb, he⟩ := hrel
    obtain ⟨wo, hwo⟩ : ∃ x, x = wr := ⟨_, rfl⟩
    subst hwo
    have HE := Lib.hid he; clear he
    have hz : w.heap.size + 1 ≤ wo.heap.size := by have := hb.size; simpa using this
    have hz1 : w.heap.size < wo.heap.size := by omega
    have A0 : Hid (Blk wo w.heap.size 34 #[.int .i64 0, .int .i64 0, .int .i64 0, .string ⟨#[]⟩, .int .i64 0, .string ⟨#[]⟩, .int .i64 0, .int .i64 0, .int .i64 0, .string ⟨#[]⟩, .int .i64 0, .string ⟨#[]⟩]) := Blk.below (heap_alloc_new w _) hb (by omega)
    have HB : Hid (Below w.heap.size w wo) := ((Below.refl _ _).alloc (Nat.le_refl _) _).trans (hb.mono (by omega))
    have HBO := Lib.hid hb; clear hb
    by_cases hkn : k < n
    · have HR := Lib.hid (HL.out.below HB.out (Nat.le_refl _))
      have hkc : k + 1 ≤ c := Nat.le_trans hkn HR.out.2.2.1
      obtain ⟨b, off, p, rfl, hb1, hp, c0, c1, c2, c3, c4, c5⟩ := svt_cells HR.out hkn
      have HP := Lib.hid hp; clear hp
      cases hv : (p.v == val)
      · have HE2 : Hid (feL l val = feL (l.drop (k + 1)) val) := HE.out.trans (feL_no HP.out hv)
        go_wp2_with fail
        go_roundw
        case rel => exact ⟨k + 1, by omega, by go_num, HBO.out.alloc (by omega) _, HE2.out⟩
        case measure => simp [intOf]; omega
      · have HV := Lib.hid hv
        have hv3 : (p.v != val) = false := by rw [bne, hv]; rfl
        rcases Nat.eq_or_lt_of_le hkc with hkc | hkc
        · subst hkc
          have hnk : n ≤ k + 1 := HR.out.2.2.1
          have HR2 : Hid (RdL svtC 6 wo w.heap.size (some ⟨b, off, none⟩) (n - (k + 1)) 0 (l.drop (k + 1))) := RdL.none_ (by rw [List.length_drop, H0.out]) (by omega)
          go_wp2_with fail
          go_loopw [28] (fun i wr => ∃ j : Nat, j ≤ n - (k + 1) ∧ i = .int .i64 j ∧ Below (wo.heap.size + 1) (wo.alloc (.cells #[.int .i64 p.h, .int .i64 p.r, .int .i64 p.st, .string p.id, .int .i64 p.v, .string p.sig] 32)) wr ∧ feIn p (l.drop (k + 1)) = feIn p (l.drop (k + 1 + j))) (fun i _ => n - (k + 1) - (intOf i).toNat)
          case atStart => exact ⟨0, by omega, rfl, Below.refl _ _, rfl⟩
          case round =>
            obtain ⟨j, hj, rfl, hb, he⟩ := hrel
            have HI := Lib.hid he; clear he
            have hzr : wo.heap.size + 1 ≤ wr.heap.size := by have := hb.size; simpa using this
            have hwo : wo.heap.size < wr.heap.size := by omega
            have hwz : w.heap.size < wr.heap.size := by omega
            have AP : Hid (Blk wr wo.heap.size 32 #[.int .i64 p.h, .int .i64 p.r, .int .i64 p.st, .string p.id, .int .i64 p.v, .string p.sig]) := Blk.below (heap_alloc_new wo _) hb (by omega)
            have HB3 : Hid (Below wo.heap.size wo wr) := ((Below.refl _ _).alloc (Nat.le_refl _) _).trans (hb.mono (by omega))
            have HBW : Hid (Below w.heap.size w wr) := HB.out.trans (HB3.out.mono (by omega))
            have HBR := Lib.hid hb; clear hb
            have x0 : wr.cell? ⟨wo.heap.size, 0, none⟩ = some (.int .i64 p.h) := (AP.out.cell 0).trans rfl
            have x1 : wr.cell? ⟨wo.heap.size, 1, none⟩ = some (.int .i64 p.r) := (AP.out.cell 1).trans rfl
            have x2 : wr.cell? ⟨wo.heap.size, 2, none⟩ = some (.int .i64 p.st) := (AP.out.cell 2).trans rfl
            have x3 : wr.cell? ⟨wo.heap.size, 3, none⟩ = some (.string p.id) := (AP.out.cell 3).trans rfl
            have x4 : wr.cell? ⟨wo.heap.size, 4, none⟩ = some (.int .i64 p.v) := (AP.out.cell 4).trans rfl
            have x5 : wr.cell? ⟨wo.heap.size, 5, none⟩ = some (.string p.sig) := (AP.out.cell 5).trans rfl
            by_cases hjn : j < n - (k + 1)
            · exfalso; omega
            · obtain rfl : j = n - (k + 1) := by omega
              have HE2 : Hid (feL l val = feL (l.drop (k + 1)) val) := HE.out.trans (fe_end HP.out HV.out HI.out (by rw [H0.out]; omega))
              go_wp2_with fail
              go_roundw
              case rel => exact ⟨k + 1, by omega, by go_num, HBO.out.trans (HB3.out.mono (by omega)), HE2.out⟩
              case measure => simp [intOf]; omega
        · skip
          have HR2 : Hid (RdL svtC 6 wo w.heap.size (some ⟨b, off + (k + 1) * 6, none⟩) (n - (k + 1)) (c - (k + 1)) (l.drop (k + 1))) := RdL.drop svtC_len HR.out hkn
          go_wp2_with fail
          go_loopw [28] (fun i wr => ∃ j : Nat, j ≤ n - (k + 1) ∧ i = .int .i64 j ∧ Below (wo.heap.size + 1) (wo.alloc (.cells #[.int .i64 p.h, .int .i64 p.r, .int .i64 p.st, .string p.id, .int .i64 p.v, .string p.sig] 32)) wr ∧ feIn p (l.drop (k + 1)) = feIn p (l.drop (k + 1 + j))) (fun i _ => n - (k + 1) - (intOf i).toNat)
          case atStart => exact ⟨0, by omega, rfl, Below.refl _ _, rfl⟩
          case round =>
            obtain ⟨j, hj, rfl, hb, he⟩ := hrel
            have HI := Lib.hid he; clear he
            have hzr : wo.heap.size + 1 ≤ wr.heap.size := by have := hb.size; simpa using this
            have hwo : wo.heap.size < wr.heap.size := by omega
            have hwz : w.heap.size < wr.heap.size := by omega
            have AP : Hid (Blk wr wo.heap.size 32 #[.int .i64 p.h, .int .i64 p.r, .int .i64 p.st, .string p.id, .int .i64 p.v, .string p.sig]) := Blk.below (heap_alloc_new wo _) hb (by omega)
            have HB3 : Hid (Below wo.heap.size wo wr) := ((Below.refl _ _).alloc (Nat.le_refl _) _).trans (hb.mono (by omega))
            have HBW : Hid (Below w.heap.size w wr) := HB.out.trans (HB3.out.mono (by omega))
            have HBR := Lib.hid hb; clear hb
            have x0 : wr.cell? ⟨wo.heap.size, 0, none⟩ = some (.int .i64 p.h) := (AP.out.cell 0).trans rfl
            have x1 : wr.cell? ⟨wo.heap.size, 1, none⟩ = some (.int .i64 p.r) := (AP.out.cell 1).trans rfl
            have x2 : wr.cell? ⟨wo.heap.size, 2, none⟩ = some (.int .i64 p.st) := (AP.out.cell 2).trans rfl
            have x3 : wr.cell? ⟨wo.heap.size, 3, none⟩ = some (.string p.id) := (AP.out.cell 3).trans rfl
            have x4 : wr.cell? ⟨wo.heap.size, 4, none⟩ = some (.int .i64 p.v) := (AP.out.cell 4).trans rfl
            have x5 : wr.cell? ⟨wo.heap.size, 5, none⟩ = some (.string p.sig) := (AP.out.cell 5).trans rfl
            by_cases hjn : j < n - (k + 1)
            · obtain ⟨b2, off2, y, hy0, hb2, hy, d0, d1, d2, d3, d4, d5⟩ := svt_cells (HR2.out.below HB3.out (by omega)) hjn
              simp only [Option.some.injEq, Addr.mk.injEq, and_true] at hy0
              obtain ⟨rfl, rfl⟩ := hy0
              have HY : Hid (l[k + 1 + j]? = some y) := by show _ = _; rw [List.getElem?_drop] at hy; exact hy
              clear hy
              have HBE : Hid (Below w.heap.size w ((wr.alloc (.cells #[.int .i64 y.h, .int .i64 y.r, .int .i64 y.st, .string y.id, .int .i64 y.v, .string y.sig] 32)).alloc (.cells #[.int .i64 p.h, .int .i64 p.r, .int .i64 p.st, .string p.id, .int .i64 p.v, .string p.sig, .int .i64 y.h, .int .i64 y.r, .int .i64 y.st, .string y.id, .int .i64 y.v, .string y.sig] 34))) := (HBW.out.alloc (by omega) _).alloc (by rw [World.size_alloc]; omega) _
              have HBE2 : Hid (Below (wo.heap.size + 1) (wo.alloc (.cells #[.int .i64 p.h, .int .i64 p.r, .int .i64 p.st, .string p.id, .int .i64 p.v, .string p.sig] 32)) ((wr.alloc (.cells #[.int .i64 y.h, .int .i64 y.r, .int .i64 y.st, .string y.id, .int .i64 y.v, .string y.sig] 32)).alloc (.cells #[.int .i64 p.h, .int .i64 p.r, .int .i64 p.st, .string p.id, .int .i64 p.v, .string p.sig, .int .i64 y.h, .int .i64 y.r, .int .i64 y.st, .string y.id, .int .i64 y.v, .string y.sig] 34))) := (HBR.out.alloc (by omega) _).alloc (by rw [World.size_alloc]; omega) _
              cases hq : evB (evOf p y)
              · have HI2 : Hid (feIn p (l.drop (k + 1)) = feIn p (l.drop (k + 1 + (j + 1)))) := HI.out.trans (feIn_no HY.out hq)
                have HF : ∀ wx : World, Tab wx → Hid (Calls Tryd.prog 11 #[.agg #[.int .i64 p.h, .int .i64 p.r, .int .i64 p.st, .string p.id, .int .i64 p.v, .string p.sig, .int .i64 y.h, .int .i64 y.r, .int .i64 y.st, .string y.id, .int .i64 y.v, .string y.sig]] wx fun r w' => r = .returned (.bool false) ∧ Below wx.heap.size wx w') := fun wx hx => by have h := EvidOk_any (evOf p y) wx hx; rw [hq] at h; exact h
                clear hq
                go_wp2_with fail
                refine (HF _ (by exact HT.out.below HBE.out HT.out.pos)).out.mono ?_
                rintro e w1 ⟨rfl, hb4⟩
                have HB4 := Lib.hid hb4; clear hb4
                go_wp2_with fail
                go_roundw
                case rel => exact ⟨j + 1, by omega, by go_num, HBE2.out.trans (HB4.out.mono (by have h := HBE2.out.size; rw [World.size_alloc wo] at h; exact h)), HI2.out⟩
                case measure => simp [intOf]; omega
              · have HG : Hid (feL l val = some (evOf p y)) := HE.out.trans (fe_hit HP.out HV.out HI.out HY.out hq)
                have HF : ∀ wx : World, Tab wx → Hid (Calls Tryd.prog 11 #[.agg #[.int .i64 p.h, .int .i64 p.r, .int .i64 p.st, .string p.id, .int .i64 p.v, .string p.sig, .int .i64 y.h, .int .i64 y.r, .int .i64 y.st, .string y.id, .int .i64 y.v, .string y.sig]] wx fun r w' => r = .returned (.bool true) ∧ Below wx.heap.size wx w') := fun wx hx => by have h := EvidOk_any (evOf p y) wx hx; rw [hq] at h; exact h
                clear hq
                go_wp2_with fail
                refine (HF _ (by exact HT.out.below HBE.out HT.out.pos)).out.mono ?_
                rintro e w1 ⟨rfl, hb4⟩
                have AE0 : Blk ((wr.alloc (.cells #[.int .i64 y.h, .int .i64 y.r, .int .i64 y.st, .string y.id, .int .i64 y.v, .string y.sig] 32)).alloc (.cells #[.int .i64 p.h, .int .i64 p.r, .int .i64 p.st, .string p.id, .int .i64 p.v, .string p.sig, .int .i64 y.h, .int .i64 y.r, .int .i64 y.st, .string y.id, .int .i64 y.v, .string y.sig] 34)) (wr.heap.size + 1) 34 #[.int .i64 p.h, .int .i64 p.r, .int .i64 p.st, .string p.id, .int .i64 p.v, .string p.sig, .int .i64 y.h, .int .i64 y.r, .int .i64 y.st, .string y.id, .int .i64 y.v, .string y.sig] := blk_newAt (wr.alloc (.cells #[.int .i64 y.h, .int .i64 y.r, .int .i64 y.st, .string y.id, .int .i64 y.v, .string y.sig] 32)) _ _ _ (World.size_alloc _ _)
                have AE : Blk w1 (wr.heap.size + 1) 34 #[.int .i64 p.h, .int .i64 p.r, .int .i64 p.st, .string p.id, .int .i64 p.v, .string p.sig, .int .i64 y.h, .int .i64 y.r, .int .i64 y.st, .string y.id, .int .i64 y.v, .string y.sig] := AE0.below hb4 AE0.lt
                have AR : Blk w1 w.heap.size 34 #[.int .i64 0, .int .i64 0, .int .i64 0, .string ⟨#[]⟩, .int .i64 0, .string ⟨#[]⟩, .int .i64 0, .int .i64 0, .int .i64 0, .string ⟨#[]⟩, .int .i64 0, .string ⟨#[]⟩] := (((A0.out.below HB3.out hz1).alloc _).alloc _).below hb4 (by rw [World.size_alloc, World.size_alloc]; omega)
                have HB4 := Lib.hid (HBE.out.trans (hb4.mono HBE.out.size)); clear hb4
                have e0 : w1.cell? ⟨wr.heap.size + 1, 0, none⟩ = some (.int .i64 p.h) := (AE.cell 0).trans rfl
                have e1 : w1.cell? ⟨wr.heap.size + 1, 1, none⟩ = some (.int .i64 p.r) := (AE.cell 1).trans rfl
                have e2 : w1.cell? ⟨wr.heap.size + 1, 2, none⟩ = some (.int .i64 p.st) := (AE.cell 2).trans rfl
                have e3 : w1.cell? ⟨wr.heap.size + 1, 3, none⟩ = some (.string p.id) := (AE.cell 3).trans rfl
                have e4 : w1.cell? ⟨wr.heap.size + 1, 4, none⟩ = some (.int .i64 p.v) := (AE.cell 4).trans rfl
                have e5 : w1.cell? ⟨wr.heap.size + 1, 5, none⟩ = some (.string p.sig) := (AE.cell 5).trans rfl
                have e6 : w1.cell? ⟨wr.heap.size + 1, 6, none⟩ = some (.int .i64 y.h) := (AE.cell 6).trans rfl
                have e7 : w1.cell? ⟨wr.heap.size + 1, 7, none⟩ = some (.int .i64 y.r) := (AE.cell 7).trans rfl
                have e8 : w1.cell? ⟨wr.heap.size + 1, 8, none⟩ = some (.int .i64 y.st) := (AE.cell 8).trans rfl
                have e9 : w1.cell? ⟨wr.heap.size + 1, 9, none⟩ = some (.string y.id) := (AE.cell 9).trans rfl
                have e10 : w1.cell? ⟨wr.heap.size + 1, 10, none⟩ = some (.int .i64 y.v) := (AE.cell 10).trans rfl
                have e11 : w1.cell? ⟨wr.heap.size + 1, 11, none⟩ = some (.string y.sig) := (AE.cell 11).trans rfl
                have r0 : w1.cell? ⟨w.heap.size, 0, none⟩ = some (.int .i64 0) := (AR.cell 0).trans rfl
                have r1 : w1.cell? ⟨w.heap.size, 1, none⟩ = some (.int .i64 0) := (AR.cell 1).trans rfl
                have r2 : w1.cell? ⟨w.heap.size, 2, none⟩ = some (.int .i64 0) := (AR.cell 2).trans rfl
                have r3 : w1.cell? ⟨w.heap.size, 3, none⟩ = some (.string ⟨#[]⟩) := (AR.cell 3).trans rfl
                have r4 : w1.cell? ⟨w.heap.size, 4, none⟩ = some (.int .i64 0) := (AR.cell 4).trans rfl
                have r5 : w1.cell? ⟨w.heap.size, 5, none⟩ = some (.string ⟨#[]⟩) := (AR.cell 5).trans rfl
                have r6 : w1.cell? ⟨w.heap.size, 6, none⟩ = some (.int .i64 0) := (AR.cell 6).trans rfl
                have r7 : w1.cell? ⟨w.heap.size, 7, none⟩ = some (.int .i64 0) := (AR.cell 7).trans rfl
                have r8 : w1.cell? ⟨w.heap.size, 8, none⟩ = some (.int .i64 0) := (AR.cell 8).trans rfl
                have r9 : w1.cell? ⟨w.heap.size, 9, none⟩ = some (.string ⟨#[]⟩) := (AR.cell 9).trans rfl
                have r10 : w1.cell? ⟨w.heap.size, 10, none⟩ = some (.int .i64 0) := (AR.cell 10).trans rfl
                have r11 : w1.cell? ⟨w.heap.size, 11, none⟩ = some (.string ⟨#[]⟩) := (AR.cell 11).trans rfl
                have fr := AR.frozen
                have hne : (wr.heap.size + 1 = w.heap.size) = False := by simp; omega
                clear AE AE0 AR
                go_wp2_with fail
                refine bodyPost_ret (v := .tuple #[.agg #[.int .i64 p.h, .int .i64 p.r, .int .i64 p.st, .string p.id, .int .i64 p.v, .string p.sig, .int .i64 y.h, .int .i64 y.r, .int .i64 y.st, .string y.id, .int .i64 y.v, .string y.sig], .bool true]) (by simp [results, Tryd.results17, go_sem, r0, r1, r2, r3, r4, r5, r6, r7, r8, r9, r10, r11]) rfl ⟨by rw [HG.out]; rfl, ?_⟩
                (repeat (first | with_reducible refine Below.setCell ?_ (by first | exact Nat.le_refl _ | (simp; done) | (simp; omega)) _ | with_reducible refine Below.alloc ?_ (by first | exact Nat.le_refl _ | (simp; done) | (simp; omega)) _ | with_reducible refine Below.drew ?_)); (with_reducible exact HB4.out)
            · obtain rfl : j = n - (k + 1) := by omega
              have HE2 : Hid (feL l val = feL (l.drop (k + 1)) val) := HE.out.trans (fe_end HP.out HV.out HI.out (by rw [H0.out]; omega))
              go_wp2_with fail
              go_roundw
              case rel => exact ⟨k + 1, by omega, by go_num, HBO.out.trans (HB3.out.mono (by omega)), HE2.out⟩
              case measure => simp [intOf]; omega
    · obtain rfl : k = n := by omega
      have HG : Hid (feL l val = none) := HE.out.trans (fe_none (by rw [H0.out]; omega))
      have r0 : wo.cell? ⟨w.heap.size, 0, none⟩ = some (.int .i64 0) := (A0.out.cell 0).trans rfl
      have r1 : wo.cell? ⟨w.heap.size, 1, none⟩ = some (.int .i64 0) := (A0.out.cell 1).trans rfl
      have r2 : wo.cell? ⟨w.heap.size, 2, none⟩ = some (.int .i64 0) := (A0.out.cell 2).trans rfl
      have r3 : wo.cell? ⟨w.heap.size, 3, none⟩ = some (.string ⟨#[]⟩) := (A0.out.cell 3).trans rfl
      have r4 : wo.cell? ⟨w.heap.size, 4, none⟩ = some (.int .i64 0) := (A0.out.cell 4).trans rfl
      have r5 : wo.cell? ⟨w.heap.size, 5, none⟩ = some (.string ⟨#[]⟩) := (A0.out.cell 5).trans rfl
      have r6 : wo.cell? ⟨w.heap.size, 6, none⟩ = some (.int .i64 0) := (A0.out.cell 6).trans rfl
      have r7 : wo.cell? ⟨w.heap.size, 7, none⟩ = some (.int .i64 0) := (A0.out.cell 7).trans rfl
      have r8 : wo.cell? ⟨w.heap.size, 8, none⟩ = some (.int .i64 0) := (A0.out.cell 8).trans rfl
      have r9 : wo.cell? ⟨w.heap.size, 9, none⟩ = some (.string ⟨#[]⟩) := (A0.out.cell 9).trans rfl
      have r10 : wo.cell? ⟨w.heap.size, 10, none⟩ = some (.int .i64 0) := (A0.out.cell 10).trans rfl
      have r11 : wo.cell? ⟨w.heap.size, 11, none⟩ = some (.string ⟨#[]⟩) := (A0.out.cell 11).trans rfl
      have fr := A0.out.frozen
      go_wp2_with fail
      refine bodyPost_ret (v := .tuple #[.agg #[.int .i64 0, .int .i64 0, .int .i64 0, .string ⟨#[]⟩, .int .i64 0, .string ⟨#[]⟩, .int .i64 0, .int .i64 0, .int .i64 0, .string ⟨#[]⟩, .int .i64 0, .string ⟨#[]⟩], .bool false]) (by simp [results, Tryd.results17, go_sem, r0, r1, r2, r3, r4, r5, r6, r7, r8, r9, r10, r11]) rfl ⟨by rw [HG.out]; rfl, ?_⟩
      (repeat (first | with_reducible refine Below.setCell ?_ (by first | exact Nat.le_refl _ | (simp; done) | (simp; omega)) _ | with_reducible refine Below.alloc ?_ (by first | exact Nat.le_refl _ | (simp; done) | (simp; omega)) _ | with_reducible refine Below.drew ?_)); (with_reducible exact HB.out)

set_option maxHeartbeats 4000000 in
theorem sFindEvid_any (A : Option Addr) (n c : Nat) (l : List SVoteD) (val : Int) (w : World) (hl : RdL svtC 6 w w.heap.size A n c l) :
    Calls Tryd.prog 15 #[.slice A n c, .int .i64 val] w fun e w' => e = .returned (.tuple #[.agg #[.int .i64 (evG (feL l val)).a.h, .int .i64 (evG (feL l val)).a.r, .int .i64 (evG (feL l val)).a.st, .string (evG (feL l val)).a.id, .int .i64 (evG (feL l val)).a.v, .string (evG (feL l val)).sa, .int .i64 (evG (feL l val)).b.h, .int .i64 (evG (feL l val)).b.r, .int .i64 (evG (feL l val)).b.st, .string (evG (feL l val)).b.id, .int .i64 (evG (feL l val)).b.v, .string (evG (feL l val)).sb], .bool (feL l val).isSome]) ∧ Below w.heap.size w w' := by
  have hn := hl.le
  have HL := Lib.hid hl
  have H0 := Lib.hid hl.1
  clear hl
  go_enter Tryd.func15, Tryd.ntmps15
  go_wp2_with fail
  go_loopw [6] (fun i wr => ∃ k : Nat, k ≤ n ∧ i = .int .i64 k ∧ Below (w.heap.size + 1) (w.alloc (.cells #[.int .i64 0, .int .i64 0, .int .i64 0, .string ⟨#[]⟩, .int .i64 0, .string ⟨#[]⟩, .int .i64 0, .int .i64 0, .int .i64 0, .string ⟨#[]⟩, .int .i64 0, .string ⟨#[]⟩] 34)) wr ∧ feL l val = feL (l.drop k) val) (fun i _ => n - (intOf i).toNat)
  case atStart => exact ⟨0, by omega, rfl, Below.refl _ _, rfl⟩
  case round =>
    obtain ⟨k, hk, rfl, hb, he⟩ := hrel
    obtain ⟨wo, hwo⟩ : ∃ x, x = wr := ⟨_, rfl⟩
    subst hwo
    have HE := Lib.hid he; clear he
    have hz : w.heap.size + 1 ≤ wo.heap.size := by have := hb.size; simpa using this
    have hz1 : w.heap.size < wo.heap.size := by omega
    have A0 : Hid (Blk wo w.heap.size 34 #[.int .i64 0, .int .i64 0, .int .i64 0, .string ⟨#[]⟩, .int .i64 0, .string ⟨#[]⟩, .int .i64 0, .int .i64 0, .int .i64 0, .string ⟨#[]⟩, .int .i64 0, .string ⟨#[]⟩]) := Blk.below (heap_alloc_new w _) hb (by omega)
    have HB : Hid (Below w.heap.size w wo) := ((Below.refl _ _).alloc (Nat.le_refl _) _).trans (hb.mono (by omega))
    have HBO := Lib.hid hb; clear hb
    by_cases hkn : k < n
    · have HR := Lib.hid (HL.out.below HB.out (Nat.le_refl _))
      have hkc : k + 1 ≤ c := Nat.le_trans hkn HR.out.2.2.1
      obtain ⟨b, off, p, rfl, hb1, hp, c0, c1, c2, c3, c4, c5⟩ := svt_cells HR.out hkn
      have HP := Lib.hid hp; clear hp
      cases hv : (p.v == val)
      · have HE2 : Hid (feL l val = feL (l.drop (k + 1)) val) := HE.out.trans (feL_no HP.out hv)
        go_wp2_with fail
        go_roundw
        case rel => exact ⟨k + 1, by omega, by go_num, HBO.out, HE2.out⟩
        case measure => simp [intOf]; omega
      · have HV := Lib.hid hv
        have hv3 : (p.v != val) = false := by rw [bne, hv]; rfl
        go_wp2_with fail
        go_loopw [7] (fun i wr => ∃ j : Nat, k + 1 ≤ j ∧ j ≤ n ∧ i = .int .i64 j ∧ Below wo.heap.size wo wr ∧ feIn p (l.drop (k + 1)) = feIn p (l.drop j)) (fun i _ => n - (intOf i).toNat)
        case atStart => exact ⟨k + 1, by omega, by omega, by go_num, Below.refl _ _, rfl⟩
        case round =>
          obtain ⟨j, hj0, hj, rfl, hb, he⟩ := hrel
          have HI := Lib.hid he; clear he
          have hzr : wo.heap.size ≤ wr.heap.size := hb.size
          have hwz : w.heap.size < wr.heap.size := by omega
          have HBW : Hid (Below w.heap.size w wr) := HB.out.trans (hb.mono (by omega))
          have HB3 := Lib.hid hb; clear hb
          have hbw : b < wr.heap.size := by omega
          have k0 : (0 : Int) ≤ k := by omega
          have k1 : (k : Int) < n := by omega
          have j0 : (0 : Int) ≤ j := by omega
          have x0 : wr.cell? ⟨b, off + k * 6, none⟩ = some (.int .i64 p.h) := (HB3.out.cell (p := ⟨b, off + k * 6, none⟩) (by show b < _; omega)).trans c0
          have x1 : wr.cell? ⟨b, off + k * 6 + 1, none⟩ = some (.int .i64 p.r) := (HB3.out.cell (p := ⟨b, off + k * 6 + 1, none⟩) (by show b < _; omega)).trans c1
          have x2 : wr.cell? ⟨b, off + k * 6 + 2, none⟩ = some (.int .i64 p.st) := (HB3.out.cell (p := ⟨b, off + k * 6 + 2, none⟩) (by show b < _; omega)).trans c2
          have x3 : wr.cell? ⟨b, off + k * 6 + 3, none⟩ = some (.string p.id) := (HB3.out.cell (p := ⟨b, off + k * 6 + 3, none⟩) (by show b < _; omega)).trans c3
          have x4 : wr.cell? ⟨b, off + k * 6 + 4, none⟩ = some (.int .i64 p.v) := (HB3.out.cell (p := ⟨b, off + k * 6 + 4, none⟩) (by show b < _; omega)).trans c4
          have x5 : wr.cell? ⟨b, off + k * 6 + 5, none⟩ = some (.string p.sig) := (HB3.out.cell (p := ⟨b, off + k * 6 + 5, none⟩) (by show b < _; omega)).trans c5
          by_cases hjn : j < n
          · have j1 : (j : Int) < n := by omega
            obtain ⟨b2, off2, y, hy0, hb2, hy, d0, d1, d2, d3, d4, d5⟩ := svt_cells (HR.out.below HB3.out (by omega)) hjn
            simp only [Option.some.injEq, Addr.mk.injEq, and_true] at hy0
            obtain ⟨rfl, rfl⟩ := hy0
            have HY := Lib.hid hy; clear hy
            have HBE : Hid (Below w.heap.size w (wr.alloc (.cells #[.int .i64 p.h, .int .i64 p.r, .int .i64 p.st, .string p.id, .int .i64 p.v, .string p.sig, .int .i64 y.h, .int .i64 y.r, .int .i64 y.st, .string y.id, .int .i64 y.v, .string y.sig] 34))) := HBW.out.alloc (by omega) _
            have HBE2 : Hid (Below wo.heap.size wo (wr.alloc (.cells #[.int .i64 p.h, .int .i64 p.r, .int .i64 p.st, .string p.id, .int .i64 p.v, .string p.sig, .int .i64 y.h, .int .i64 y.r, .int .i64 y.st, .string y.id, .int .i64 y.v, .string y.sig] 34))) := HB3.out.alloc (by omega) _
            cases hq : evB (evOf p y)
            · have HI2 : Hid (feIn p (l.drop (k + 1)) = feIn p (l.drop (j + 1))) := HI.out.trans (feIn_no HY.out hq)
              have HF : ∀ wx : World, Hid (Calls Tryd.prog 9 #[.agg #[.int .i64 p.h, .int .i64 p.r, .int .i64 p.st, .string p.id, .int .i64 p.v, .string p.sig, .int .i64 y.h, .int .i64 y.r, .int .i64 y.st, .string y.id, .int .i64 y.v, .string y.sig]] wx fun r w' => r = .returned (.bool false) ∧ Below wx.heap.size wx w') := fun wx => by have h := sEvidOk_any (evOf p y) wx; rw [hq] at h; exact h
              clear hq
              go_wp2_with fail
              go_region
              go_wp2_with fail
              refine (HF _).out.mono ?_
              rintro e w1 ⟨rfl, hb4⟩
              have HB4 : Hid (Below (wr.alloc (.cells #[.int .i64 p.h, .int .i64 p.r, .int .i64 p.st, .string p.id, .int .i64 p.v, .string p.sig, .int .i64 y.h, .int .i64 y.r, .int .i64 y.st, .string y.id, .int .i64 y.v, .string y.sig] 34)).heap.size (wr.alloc (.cells #[.int .i64 p.h, .int .i64 p.r, .int .i64 p.st, .string p.id, .int .i64 p.v, .string p.sig, .int .i64 y.h, .int .i64 y.r, .int .i64 y.st, .string y.id, .int .i64 y.v, .string y.sig] 34)) w1) := Below.trans ((Below.refl _ _).drew) hb4
              clear hb4
              go_wp2_with fail
              go_roundw
              case rel => exact ⟨j + 1, by omega, by omega, by go_num, HBE2.out.trans (HB4.out.mono HBE2.out.size), HI2.out⟩
              case measure => simp [intOf]; omega
            · have HG : Hid (feL l val = some (evOf p y)) := HE.out.trans (fe_hit HP.out HV.out HI.out HY.out hq)
              have HF : ∀ wx : World, Hid (Calls Tryd.prog 9 #[.agg #[.int .i64 p.h, .int .i64 p.r, .int .i64 p.st, .string p.id, .int .i64 p.v, .string p.sig, .int .i64 y.h, .int .i64 y.r, .int .i64 y.st, .string y.id, .int .i64 y.v, .string y.sig]] wx fun r w' => r = .returned (.bool true) ∧ Below wx.heap.size wx w') := fun wx => by have h := sEvidOk_any (evOf p y) wx; rw [hq] at h; exact h
              clear hq
              go_wp2_with fail
              go_region
              go_wp2_with fail
              refine (HF _).out.mono ?_
              rintro e w1 ⟨rfl, hb5⟩
              have hb4 : Below (wr.alloc (.cells #[.int .i64 p.h, .int .i64 p.r, .int .i64 p.st, .string p.id, .int .i64 p.v, .string p.sig, .int .i64 y.h, .int .i64 y.r, .int .i64 y.st, .string y.id, .int .i64 y.v, .string y.sig] 34)).heap.size (wr.alloc (.cells #[.int .i64 p.h, .int .i64 p.r, .int .i64 p.st, .string p.id, .int .i64 p.v, .string p.sig, .int .i64 y.h, .int .i64 y.r, .int .i64 y.st, .string y.id, .int .i64 y.v, .string y.sig] 34)) w1 := Below.trans ((Below.refl _ _).drew) hb5
              clear hb5
              have AE0 : Blk (wr.alloc (.cells #[.int .i64 p.h, .int .i64 p.r, .int .i64 p.st, .string p.id, .int .i64 p.v, .string p.sig, .int .i64 y.h, .int .i64 y.r, .int .i64 y.st, .string y.id, .int .i64 y.v, .string y.sig] 34)) wr.heap.size 34 #[.int .i64 p.h, .int .i64 p.r, .int .i64 p.st, .string p.id, .int .i64 p.v, .string p.sig, .int .i64 y.h, .int .i64 y.r, .int .i64 y.st, .string y.id, .int .i64 y.v, .string y.sig] := heap_alloc_new wr _
              have AE : Blk w1 wr.heap.size 34 #[.int .i64 p.h, .int .i64 p.r, .int .i64 p.st, .string p.id, .int .i64 p.v, .string p.sig, .int .i64 y.h, .int .i64 y.r, .int .i64 y.st, .string y.id, .int .i64 y.v, .string y.sig] := AE0.below hb4 AE0.lt
              have AR : Blk w1 w.heap.size 34 #[.int .i64 0, .int .i64 0, .int .i64 0, .string ⟨#[]⟩, .int .i64 0, .string ⟨#[]⟩, .int .i64 0, .int .i64 0, .int .i64 0, .string ⟨#[]⟩, .int .i64 0, .string ⟨#[]⟩] := ((A0.out.below HB3.out hz1).alloc _).below hb4 (by rw [World.size_alloc]; omega)
              have HB4 := Lib.hid (HBE.out.trans (hb4.mono HBE.out.size)); clear hb4
              have e0 : w1.cell? ⟨wr.heap.size, 0, none⟩ = some (.int .i64 p.h) := (AE.cell 0).trans rfl
              have e1 : w1.cell? ⟨wr.heap.size, 1, none⟩ = some (.int .i64 p.r) := (AE.cell 1).trans rfl
              have e2 : w1.cell? ⟨wr.heap.size, 2, none⟩ = some (.int .i64 p.st) := (AE.cell 2).trans rfl
              have e3 : w1.cell? ⟨wr.heap.size, 3, none⟩ = some (.string p.id) := (AE.cell 3).trans rfl
              have e4 : w1.cell? ⟨wr.heap.size, 4, none⟩ = some (.int .i64 p.v) := (AE.cell 4).trans rfl
              have e5 : w1.cell? ⟨wr.heap.size, 5, none⟩ = some (.string p.sig) := (AE.cell 5).trans rfl
              have e6 : w1.cell? ⟨wr.heap.size, 6, none⟩ = some (.int .i64 y.h) := (AE.cell 6).trans rfl
              have e7 : w1.cell? ⟨wr.heap.size, 7, none⟩ = some (.int .i64 y.r) := (AE.cell 7).trans rfl
              have e8 : w1.cell? ⟨wr.heap.size, 8, none⟩ = some (.int .i64 y.st) := (AE.cell 8).trans rfl
              have e9 : w1.cell? ⟨wr.heap.size, 9, none⟩ = some (.string y.id) := (AE.cell 9).trans rfl
              have e10 : w1.cell? ⟨wr.heap.size, 10, none⟩ = some (.int .i64 y.v) := (AE.cell 10).trans rfl
              have e11 : w1.cell? ⟨wr.heap.size, 11, none⟩ = some (.string y.sig) := (AE.cell 11).trans rfl
              have r0 : w1.cell? ⟨w.heap.size, 0, none⟩ = some (.int .i64 0) := (AR.cell 0).trans rfl
              have r1 : w1.cell? ⟨w.heap.size, 1, none⟩ = some (.int .i64 0) := (AR.cell 1).trans rfl
              have r2 : w1.cell? ⟨w.heap.size, 2, none⟩ = some (.int .i64 0) := (AR.cell 2).trans rfl
              have r3 : w1.cell? ⟨w.heap.size, 3, none⟩ = some (.string ⟨#[]⟩) := (AR.cell 3).trans rfl
              have r4 : w1.cell? ⟨w.heap.size, 4, none⟩ = some (.int .i64 0) := (AR.cell 4).trans rfl
              have r5 : w1.cell? ⟨w.heap.size, 5, none⟩ = some (.string ⟨#[]⟩) := (AR.cell 5).trans rfl
              have r6 : w1.cell? ⟨w.heap.size, 6, none⟩ = some (.int .i64 0) := (AR.cell 6).trans rfl
              have r7 : w1.cell? ⟨w.heap.size, 7, none⟩ = some (.int .i64 0) := (AR.cell 7).trans rfl
              have r8 : w1.cell? ⟨w.heap.size, 8, none⟩ = some (.int .i64 0) := (AR.cell 8).trans rfl
              have r9 : w1.cell? ⟨w.heap.size, 9, none⟩ = some (.string ⟨#[]⟩) := (AR.cell 9).trans rfl
              have r10 : w1.cell? ⟨w.heap.size, 10, none⟩ = some (.int .i64 0) := (AR.cell 10).trans rfl
              have r11 : w1.cell? ⟨w.heap.size, 11, none⟩ = some (.string ⟨#[]⟩) := (AR.cell 11).trans rfl
              have fr := AR.frozen
              have hne : (wr.heap.size = w.heap.size) = False := by simp; omega
              clear AE AE0 AR
              go_wp2_with fail
              refine bodyPost_ret (v := .tuple #[.agg #[.int .i64 p.h, .int .i64 p.r, .int .i64 p.st, .string p.id, .int .i64 p.v, .string p.sig, .int .i64 y.h, .int .i64 y.r, .int .i64 y.st, .string y.id, .int .i64 y.v, .string y.sig], .bool true]) (by simp [results, Tryd.results15, go_sem, r0, r1, r2, r3, r4, r5, r6, r7, r8, r9, r10, r11]) rfl ⟨by rw [HG.out]; rfl, ?_⟩
              (repeat (first | with_reducible refine Below.setCell ?_ (by first | exact Nat.le_refl _ | (simp; done) | (simp; omega)) _ | with_reducible refine Below.alloc ?_ (by first | exact Nat.le_refl _ | (simp; done) | (simp; omega)) _ | with_reducible refine Below.drew ?_)); (with_reducible exact HB4.out)
          · obtain rfl : j = n := by omega
            have HE2 : Hid (feL l val = feL (l.drop (k + 1)) val) := HE.out.trans (fe_end HP.out HV.out HI.out (by rw [H0.out]; omega))
            go_wp2_with fail
            go_roundw
            case rel => exact ⟨k + 1, by omega, by go_num, HBO.out.trans (HB3.out.mono (by omega)), HE2.out⟩
            case measure => simp [intOf]; omega
    · obtain rfl : k = n := by omega
      have HG : Hid (feL l val = none) := HE.out.trans (fe_none (by rw [H0.out]; omega))
      have r0 : wo.cell? ⟨w.heap.size, 0, none⟩ = some (.int .i64 0) := (A0.out.cell 0).trans rfl
      have r1 : wo.cell? ⟨w.heap.size, 1, none⟩ = some (.int .i64 0) := (A0.out.cell 1).trans rfl
      have r2 : wo.cell? ⟨w.heap.size, 2, none⟩ = some (.int .i64 0) := (A0.out.cell 2).trans rfl
      have r3 : wo.cell? ⟨w.heap.size, 3, none⟩ = some (.string ⟨#[]⟩) := (A0.out.cell 3).trans rfl
      have r4 : wo.cell? ⟨w.heap.size, 4, none⟩ = some (.int .i64 0) := (A0.out.cell 4).trans rfl
      have r5 : wo.cell? ⟨w.heap.size, 5, none⟩ = some (.string ⟨#[]⟩) := (A0.out.cell 5).trans rfl
      have r6 : wo.cell? ⟨w.heap.size, 6, none⟩ = some (.int .i64 0) := (A0.out.cell 6).trans rfl
      have r7 : wo.cell? ⟨w.heap.size, 7, none⟩ = some (.int .i64 0) := (A0.out.cell 7).trans rfl
      have r8 : wo.cell? ⟨w.heap.size, 8, none⟩ = some (.int .i64 0) := (A0.out.cell 8).trans rfl
      have r9 : wo.cell? ⟨w.heap.size, 9, none⟩ = some (.string ⟨#[]⟩) := (A0.out.cell 9).trans rfl
      have r10 : wo.cell? ⟨w.heap.size, 10, none⟩ = some (.int .i64 0) := (A0.out.cell 10).trans rfl
      have r11 : wo.cell? ⟨w.heap.size, 11, none⟩ = some (.string ⟨#[]⟩) := (A0.out.cell 11).trans rfl
      have fr := A0.out.frozen
      go_wp2_with fail
      refine bodyPost_ret (v := .tuple #[.agg #[.int .i64 0, .int .i64 0, .int .i64 0, .string ⟨#[]⟩, .int .i64 0, .string ⟨#[]⟩, .int .i64 0, .int .i64 0, .int .i64 0, .string ⟨#[]⟩, .int .i64 0, .string ⟨#[]⟩], .bool false]) (by simp [results, Tryd.results15, go_sem, r0, r1, r2, r3, r4, r5, r6, r7, r8, r9, r10, r11]) rfl ⟨by rw [HG.out]; rfl, ?_⟩
      (repeat (first | with_reducible refine Below.setCell ?_ (by first | exact Nat.le_refl _ | (simp; done) | (simp; omega)) _ | with_reducible refine Below.alloc ?_ (by first | exact Nat.le_refl _ | (simp; done) | (simp; omega)) _ | with_reducible refine Below.drew ?_)); (with_reducible exact HB.out)
end Go.Proofs.YteaggbbimhpolaaDoor
