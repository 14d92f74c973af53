/- FnEvidence: nobody is blamed who did not sign two votes where one may be; whoever did is. No conditions but the card's: the table of the hash is as the program's text lays it. (written by wip/fnevid.py) -/
import Derived.Test.YteaggbbimhpolaaDoorDrawEvid
import Derived.Test.YteaggbbimhpolaaDoorEvidPure
import Derived.Test.YteaggbbimhpolaaDoorEv
import Derived.Test.YteaggbbimhpolaaDoorCard
import Derived.Test.YteaggbbimhpolaaDoorFnL
namespace Go.Proofs.YteaggbbimhpolaaDoor
open Go.ChangeShapes Go.WideShapes Go.ChangeAt Go.RowKit Go.Joins

section
variable (e : EvD) (b : Bool) (w : World) (hb : evB e = b)
include hb
set_option maxRecDepth 100000 in
theorem EvidOk_b (ht : Tab w) : Calls Tryd.prog 11 #[.agg #[.int .i64 e.a.h, .int .i64 e.a.r, .int .i64 e.a.st, .string e.a.id, .int .i64 e.a.v, .string e.sa, .int .i64 e.b.h, .int .i64 e.b.r, .int .i64 e.b.st, .string e.b.id, .int .i64 e.b.v, .string e.sb]] w fun r w' => r = .returned (.bool b) ∧ Below w.heap.size w w' := by
  have h := EvidOk_any e w ht
  rw [hb] at h; exact h
set_option maxRecDepth 100000 in
theorem sEvidOk_b : Calls Tryd.prog 9 #[.agg #[.int .i64 e.a.h, .int .i64 e.a.r, .int .i64 e.a.st, .string e.a.id, .int .i64 e.a.v, .string e.sa, .int .i64 e.b.h, .int .i64 e.b.r, .int .i64 e.b.st, .string e.b.id, .int .i64 e.b.v, .string e.sb]] w fun r w' => r = .returned (.bool b) ∧ Below w.heap.size w w' := by
  have h := sEvidOk_any e w
  rw [hb] at h; exact h
end
set_option maxRecDepth 100000 in
theorem Culprit_t (e : EvD) (w : World) (ht : Tab w) (hb : evB e = true) : Calls Tryd.prog 13 #[.agg #[.int .i64 e.a.h, .int .i64 e.a.r, .int .i64 e.a.st, .string e.a.id, .int .i64 e.a.v, .string e.sa, .int .i64 e.b.h, .int .i64 e.b.r, .int .i64 e.b.st, .string e.b.id, .int .i64 e.b.v, .string e.sb]] w fun r w' => r = .returned (.int .i64 e.a.v) ∧ Below w.heap.size w w' := by
  have h := Culprit_any e w ht
  rw [if_pos hb] at h; exact h
set_option maxRecDepth 100000 in
theorem FindEvid_t (A : Option Addr) (n c : Nat) (l : List SVoteD) (val : Int) (e : EvD) (w : World) (hl : RdL svtC 6 w w.heap.size A n c l) (ht : Tab w) (he : feL l val = some e) :
    Calls Tryd.prog 17 #[.slice A n c, .int .i64 val] w fun r w' => r = .returned (.tuple #[.agg #[.int .i64 e.a.h, .int .i64 e.a.r, .int .i64 e.a.st, .string e.a.id, .int .i64 e.a.v, .string e.sa, .int .i64 e.b.h, .int .i64 e.b.r, .int .i64 e.b.st, .string e.b.id, .int .i64 e.b.v, .string e.sb], .bool true]) ∧ Below w.heap.size w w' := by
  have h := FindEvid_any A n c l val w hl ht
  simp only [he, evG, Option.getD_some, Option.isSome_some] at h
  exact h

set_option maxRecDepth 100000 in
set_option maxHeartbeats 8000000 in
theorem FnEvidence_walk (A : Option Addr) (n c : Nat) (l : List UInt8) (w : World) (hl : RdL octC 1 w w.heap.size A n c l) (ht : Tab w) :
    Calls Tryd.prog 7 #[.slice A n c] w fun e w' => e = .returned (.bool true) ∧ Below w.heap.size w w' := by
  have HL := Lib.hid hl
  have HT := Lib.hid ht
  have htp := ht.pos
  clear hl ht
  by_cases hn : (1048576 : Int) < n
  · have hnb : decide ((1048576 : Int) < n) = true := decide_eq_true hn
    go_enter Tryd.func7, Tryd.ntmps7
    go_wp2_with (go_at_call 26; (with_reducible refine (big_any A n c _).mono ?_); rintro e w' ⟨rfl, rfl⟩)
    go_ret
    exact ⟨rfl, Below.refl _ _⟩
  have hnb : decide ((1048576 : Int) < n) = false := decide_eq_false hn
  go_enter Tryd.func7, Tryd.ntmps7
  go_wp2_with (go_at_call 26; (with_reducible refine (big_any A n c _).mono ?_); rintro e w' ⟨rfl, rfl⟩)
  clear hnb
  refine (DrawBlame_any A n c l _ HL.out (by omega)).mono ?_
  rintro e w1 ⟨⟨ls, Al, cl, rfl, ho, hll⟩, hb⟩
  have B0 := Lib.hid (Below.refl w.heap.size w)
  have hs1 := hb.size
  have B1 := Lib.hid (B0.out.trans (hb.mono B0.out.size))
  clear hb B0
  have Ol1 := Lib.hid ho
  clear ho
  go_wp2_with fail
  refine (Blame_any Al ls.length cl ls _ ((Ol1.out.rd svtC_len).more (by omega)) (by omega) (HT.out.below B1.out htp)).mono ?_
  rintro e w2 ⟨A2, c2, rfl, ho, hb⟩
  rw [bl_eq] at ho ⊢
  obtain ⟨bs, hbs⟩ : ∃ bs, bs = blS ls 99 := ⟨_, rfl⟩
  have hbl : bs.length ≤ 99 := by rw [hbs]; exact blS_len ls 99
  have HBS := Lib.hid hbs
  rw [← hbs] at ho ⊢
  clear hbs
  have hs2 := hb.size
  have B2 := Lib.hid (B1.out.trans (hb.mono B1.out.size))
  have Ol2 := Lib.hid (Ol1.out.below hb (by omega))
  clear hb B1 Ol1
  have Ob2 := Lib.hid ho
  clear ho
  go_wp2_with fail
  refine (sBlame_any Al ls.length cl ls _ ((Ol2.out.rd svtC_len).more (by omega))).mono ?_
  rw [← HBS.out]
  rintro e w3 ⟨A3, c3, rfl, ho, hb⟩
  have hs3 := hb.size
  have B3 := Lib.hid (B2.out.trans (hb.mono B2.out.size))
  have Ol3 := Lib.hid (Ol2.out.below hb (by omega))
  have Ob3 := Lib.hid (Ob2.out.below hb (by omega))
  clear hb B2 Ol2 Ob2
  have Os3 := Lib.hid ho
  clear ho
  go_wp2_with fail
  refine (sameInts_same A2 bs.length c2 A3 c3 bs _ ((Ob3.out.rd intC_len).more (by omega)) ((Os3.out.rd intC_len).more (by omega))).mono ?_
  rintro e w4 ⟨rfl, hb⟩
  have hs4 := hb.size
  have B4 := Lib.hid (B3.out.trans (hb.mono B3.out.size))
  have Ol4 := Lib.hid (Ol3.out.below hb (by omega))
  have Ob4 := Lib.hid (Ob3.out.below hb (by omega))
  have Os4 := Lib.hid (Os3.out.below hb (by omega))
  clear hb B3 Ol3 Ob3 Os3
  clear Os4
  go_wp2_with fail
  go_loopw [5] (fun i wr => ∃ k : Nat, k ≤ bs.length ∧ i = .int .i64 k ∧ Below w4.heap.size w4 wr) (fun i _ => bs.length - (intOf i).toNat)
  case atStart => exact ⟨0, by omega, rfl, Below.refl _ _⟩
  case round =>
    obtain ⟨k, hk, rfl, hb⟩ := hrel
    have hz := hb.size
    have Br := Lib.hid (B4.out.trans (hb.mono B4.out.size))
    have Olr := Lib.hid (Ol4.out.below hb (by omega))
    have Obr := Lib.hid (Ob4.out.below hb (by omega))
    have TBr := Lib.hid (HT.out.below Br.out htp)
    have hszr := Br.out.size
    by_cases hkn : k < bs.length
    · obtain ⟨b0, off, x, rfl, hb1, hp, c0⟩ := intC_cells ((Obr.out.rd intC_len).more (B' := wr.heap.size) (by omega)) hkn
      have hxm : x ∈ blS ls 99 := by rw [← HBS.out]; exact List.mem_iff_getElem?.2 ⟨k, hp⟩
      obtain ⟨e, he, hok, hev⟩ := bl_mem hxm
      subst hev
      have HE := Lib.hid he
      have HOK := Lib.hid hok
      clear hp hxm he hok
      go_wp2_with fail
      refine (FindEvid_t Al ls.length cl ls e.a.v e _ ((Olr.out.rd svtC_len).more (by omega)) TBr.out HE.out).mono ?_
      rintro r w5 ⟨rfl, hb5⟩
      have hs5 := hb5.size
      have TB5 := Lib.hid (TBr.out.below hb5 (by omega))
      have HB5 := Lib.hid (hb.trans (hb5.mono hz))
      have d0 := (hb5.cell (p := ⟨b0, off + k, none⟩) hb1).trans c0
      clear hb5 c0
      go_upto_region 11 with fail
      obtain ⟨w6, hw6⟩ : ∃ q, q = w5.alloc (.cells #[.int .i64 e.a.h, .int .i64 e.a.r, .int .i64 e.a.st, .string e.a.id, .int .i64 e.a.v, .string e.sa, .int .i64 e.b.h, .int .i64 e.b.r, .int .i64 e.b.st, .string e.b.id, .int .i64 e.b.v, .string e.sb] 34) := ⟨_, rfl⟩
      rw [← hw6]
      have hb6 : Below w5.heap.size w5 w6 := by rw [hw6]; exact (Below.refl _ _).alloc (Nat.le_refl _) _
      have XE := Lib.hid (show Blk w6 w5.heap.size 34 #[.int .i64 e.a.h, .int .i64 e.a.r, .int .i64 e.a.st, .string e.a.id, .int .i64 e.a.v, .string e.sa, .int .i64 e.b.h, .int .i64 e.b.r, .int .i64 e.b.st, .string e.b.id, .int .i64 e.b.v, .string e.sb] by rw [hw6]; exact heap_alloc_new w5 _)
      have hs6 := hb6.size
      have TB6 := Lib.hid (TB5.out.below hb6 (by omega))
      have HB6 := Lib.hid (HB5.out.trans (hb6.mono (by omega)))
      have d1 := (hb6.cell (p := ⟨b0, off + k, none⟩) (by show b0 < w5.heap.size; omega)).trans d0
      clear hw6 hb6 d0
      have ceE := XE.out.cell
      have lbE := XE.out.lt
      have lb0 : b0 < w6.heap.size := by omega
      have h0w6 : 0 < w6.heap.size := by omega
      refine wp_region_below (by kernel_rfl) (by kernel_rfl) ?_
      repeat (first | go_big_quiet_skip | (go_big_quiet_want; go_big_quiet_op; first | go_big_quiet_on | (apply Exists.intro; refine ⟨fun w1 hC => ?_, ?_⟩; (focus (first | rfl | (go_at_call 9; with_reducible exact quiet_below hC (sEvidOk_b e true _ HOK.out)) | (go_at_call 13; with_reducible exact quiet_below hC (Culprit_t e _ (by exact TB6.out.below hC h0w6) HOK.out)) | (simp [(bcell hC).1, ceE, lbE, d1, lb0]; done) | (simp [(bcell hC).1, ceE, lbE, d1, lb0]; rfl))); go_big_quiet_on)))
      refine wpQuiet_nil ?_
      intro w2 hb2
      obtain ⟨hc2, hf2, hz2⟩ := bcell hb2
      go_wp2_with fail
      go_roundw
      case rel => exact ⟨k + 1, by omega, by go_num, HB6.out.trans (hb2.mono HB6.out.size)⟩
      case measure => simp [intOf]; omega
    · obtain rfl : k = bs.length := by omega
      go_wp2_with fail
      go_loopw [8] (fun i wq => ∃ k : Nat, k ≤ ls.length ∧ i = .int .i64 k ∧ Below w4.heap.size w4 wq) (fun i _ => ls.length - (intOf i).toNat)
      case atStart => exact ⟨0, by omega, rfl, hb⟩
      case round =>
        clear Br Olr Obr TBr hszr hb hz
        obtain ⟨i, hi, rfl, hb⟩ := hrel
        have hz := hb.size
        have Br := Lib.hid (B4.out.trans (hb.mono B4.out.size))
        have Olr := Lib.hid (Ol4.out.below hb (by omega))
        have Obr := Lib.hid (Ob4.out.below hb (by omega))
        have TBr := Lib.hid (HT.out.below Br.out htp)
        have hszr := Br.out.size
        by_cases hin : i < ls.length
        · go_wp2_with fail
          go_loopw [9] (fun j wr => ∃ k : Nat, k ≤ i ∧ j = .int .i64 k ∧ Below w4.heap.size w4 wr) (fun j _ => i - (intOf j).toNat)
          case atStart => exact ⟨0, by omega, rfl, hb⟩
          case round =>
            clear Br Olr Obr TBr hszr hb hz
            obtain ⟨k, hk2, rfl, hb⟩ := hrel
            have hz := hb.size
            have Br := Lib.hid (B4.out.trans (hb.mono B4.out.size))
            have Olr := Lib.hid (Ol4.out.below hb (by omega))
            have Obr := Lib.hid (Ob4.out.below hb (by omega))
            have TBr := Lib.hid (HT.out.below Br.out htp)
            have hszr := Br.out.size
            by_cases hki : k < i
            · obtain ⟨b1, o1, p, e1, hb1, hp, c0, c1, c2', c3', c4, c5⟩ := svt_cells (k := k) ((Olr.out.rd svtC_len).more (B' := wr.heap.size) (by omega)) (by omega)
              obtain ⟨b1', o1', q, e2, hb2', hq, g0, g1, g2, g3, g4, g5⟩ := svt_cells (k := i) ((Olr.out.rd svtC_len).more (B' := wr.heap.size) (by omega)) hin
              subst e1
              simp only [Option.some.injEq, Addr.mk.injEq, and_true] at e2
              obtain ⟨rfl, rfl⟩ := e2
              have HP := Lib.hid hp
              have HQ := Lib.hid hq
              clear hp hq hb2'
              have hkl : k < ls.length := by omega
              have hkli : (k : Int) < ls.length := by omega
              have hili : (i : Int) < ls.length := by omega
              have RB := Lib.hid ((Obr.out.rd intC_len).more (B' := wr.heap.size) (by omega))
              cases hev : evB (evOf p q)
              · have HEV : Hid (evB ⟨⟨p.h, p.r, p.st, p.id, p.v⟩, p.sig, ⟨q.h, q.r, q.st, q.id, q.v⟩, q.sig⟩ = false) := Lib.hid hev
                clear hev
                go_upto_region 19 with fail
                refine wp_region_below (by kernel_rfl) (by kernel_rfl) ?_
                repeat (first | go_big_quiet_skip | (go_big_quiet_want; go_big_quiet_op; first | go_big_quiet_on | (apply Exists.intro; refine ⟨fun w1 hC => ?_, ?_⟩; (focus (first | rfl | (go_at_call 9; with_reducible exact quiet_below hC (sEvidOk_b ⟨⟨p.h, p.r, p.st, p.id, p.v⟩, p.sig, ⟨q.h, q.r, q.st, q.id, q.v⟩, q.sig⟩ false _ HEV.out)) | (simp [(bcell hC).1, hb1, c0, c1, c2', c3', c4, c5, g0, g1, g2, g3, g4, g5]; done) | (simp [(bcell hC).1, hb1, c0, c1, c2', c3', c4, c5, g0, g1, g2, g3, g4, g5]; rfl))); go_big_quiet_on)))
                refine wpQuiet_nil ?_
                intro w2 hb2
                obtain ⟨hc2, hf2, hz2⟩ := bcell hb2
                go_wp2_with fail
                go_roundw
                case rel => exact ⟨k + 1, by omega, by go_num, hb.trans (hb2.mono hz)⟩
                case measure => simp [intOf]; omega
              · have HEV : Hid (evB ⟨⟨p.h, p.r, p.st, p.id, p.v⟩, p.sig, ⟨q.h, q.r, q.st, q.id, q.v⟩, q.sig⟩ = true) := Lib.hid hev
                have HM : Hid (q.v ∈ bs) := Lib.hid (by rw [HBS.out]; exact bl_all HP.out HQ.out hki hev)
                clear hev
                go_upto_region 19 with fail
                refine wp_region_below (by kernel_rfl) (by kernel_rfl) ?_
                repeat (first | go_big_quiet_skip | (go_big_quiet_want; go_big_quiet_op; first | go_big_quiet_on | (apply Exists.intro; refine ⟨fun w1 hC => ?_, ?_⟩; (focus (first | rfl | (go_at_call 9; with_reducible exact quiet_below hC (sEvidOk_b ⟨⟨p.h, p.r, p.st, p.id, p.v⟩, p.sig, ⟨q.h, q.r, q.st, q.id, q.v⟩, q.sig⟩ true _ HEV.out)) | (go_at_call 29; with_reducible exact quiet_below hC (has_mem A2 bs.length c2 bs q.v _ (by exact (RB.out.below hC (Nat.le_refl _)).more hC.size) HM.out)) | (simp [(bcell hC).1, hb1, c0, c1, c2', c3', c4, c5, g0, g1, g2, g3, g4, g5]; done) | (simp [(bcell hC).1, hb1, c0, c1, c2', c3', c4, c5, g0, g1, g2, g3, g4, g5]; rfl))); go_big_quiet_on)))
                refine wpQuiet_nil ?_
                intro w2 hb2
                obtain ⟨hc2, hf2, hz2⟩ := bcell hb2
                go_wp2_with fail
                go_roundw
                case rel => exact ⟨k + 1, by omega, by go_num, hb.trans (hb2.mono hz)⟩
                case measure => simp [intOf]; omega
            · obtain rfl : k = i := by omega
              go_wp2_with fail
              go_roundw
              case rel => exact ⟨k + 1, by omega, by go_num, hb⟩
              case measure => simp [intOf]; omega
        · obtain rfl : i = ls.length := by omega
          go_wp2_with fail
          refine (DrawEvidOk_any A n c l _ ((HL.out.below Br.out (Nat.le_refl _)).more Br.out.size) (by omega)).mono ?_
          rintro r w7 ⟨⟨p, q, rfl⟩, hb7⟩
          have hs7 := hb7.size
          have TB7 := Lib.hid (TBr.out.below hb7 (by omega))
          have B7 := Lib.hid (Br.out.trans (hb7.mono Br.out.size))
          clear hb7
          obtain ⟨e, he⟩ : ∃ e : EvD, e = ⟨⟨p.h, p.r, p.st, p.id, p.v⟩, p.sig, ⟨q.h, q.r, q.st, q.id, q.v⟩, q.sig⟩ := ⟨_, rfl⟩
          go_upto_region 22 with fail
          obtain ⟨w8, hw8⟩ : ∃ z, z = w7.alloc (.cells #[.int .i64 e.a.h, .int .i64 e.a.r, .int .i64 e.a.st, .string e.a.id, .int .i64 e.a.v, .string e.sa, .int .i64 e.b.h, .int .i64 e.b.r, .int .i64 e.b.st, .string e.b.id, .int .i64 e.b.v, .string e.sb] 34) := ⟨_, rfl⟩
          have hw8' := hw8
          rw [he] at hw8'
          dsimp only at hw8'
          rw [← hw8']
          have hb8 : Below w7.heap.size w7 w8 := by rw [hw8]; exact (Below.refl _ _).alloc (Nat.le_refl _) _
          have XE := Lib.hid (show Blk w8 w7.heap.size 34 #[.int .i64 e.a.h, .int .i64 e.a.r, .int .i64 e.a.st, .string e.a.id, .int .i64 e.a.v, .string e.sa, .int .i64 e.b.h, .int .i64 e.b.r, .int .i64 e.b.st, .string e.b.id, .int .i64 e.b.v, .string e.sb] by rw [hw8]; exact heap_alloc_new w7 _)
          have TB8 := Lib.hid (TB7.out.below hb8 (by omega))
          have B8 := Lib.hid (B7.out.trans (hb8.mono B7.out.size))
          clear hw8 hw8' hb8 he
          have ceE := XE.out.cell
          have lbE := XE.out.lt
          obtain ⟨bb, hbb⟩ : ∃ bb, evB e = bb := ⟨_, rfl⟩
          have HBB := Lib.hid hbb
          have HBB2 : Hid (evB ⟨e.b, e.sb, e.a, e.sa⟩ = bb) := Lib.hid ((evB_swap e).trans hbb)
          have h0w : 0 < w8.heap.size := by omega
          clear hbb
          cases bb
          all_goals
            refine wp_region_below (by kernel_rfl) (by kernel_rfl) ?_
            repeat (first | go_big_quiet_skip | (go_big_quiet_want; go_big_quiet_op; first | go_big_quiet_on | (apply Exists.intro; refine ⟨fun w1 hC => ?_, ?_⟩; (focus (first | rfl | (go_at_call 9; with_reducible exact quiet_below hC (sEvidOk_b e _ _ HBB.out)) | (go_at_call 11; with_reducible exact quiet_below hC (EvidOk_b e _ _ HBB.out (by exact TB8.out.below hC h0w))) | (go_at_call 11; with_reducible exact quiet_below hC (EvidOk_b ⟨e.b, e.sb, e.a, e.sa⟩ _ _ HBB2.out (by exact TB8.out.below hC h0w))) | (simp [(bcell hC).1, ceE, lbE]; done) | (simp [(bcell hC).1, ceE, lbE]; rfl))); go_big_quiet_on)))
            refine wpQuiet_nil ?_
            intro w2 hb2
            obtain ⟨hc2, hf2, hz2⟩ := bcell hb2
            go_wp2_with fail
            go_ret
            exact ⟨rfl, B8.out.trans (hb2.mono B8.out.size)⟩

set_option maxRecDepth 100000 in
set_option maxHeartbeats 2000000 in
theorem FnEvidence_lifted (os : Os) (started : os.Started) (H : Type) (enc : TypeId × Value → H) :
    ReturnsInHanded {} Tryd.checked os 7 .any (fun w args => (Rows.fnEvidenceSpec.pre enc Tryd.prog Tryd.f7 Rows.fnEvidenceRow.domain false w args ∧ laidMet Tryd.prog Rows.fnEvidenceRow.laid w) ∧ sizedMet enc Tryd.prog Tryd.f7 (OpenSpec.ofChange Rows.fnEvidenceSpec) false w args)
      (Rows.fnEvidenceSpec.post enc Tryd.prog Tryd.f7 false true false false) := by
  refine returnsInHanded_of_change_and (C := Tryd.checked) (X := fun w _ => laidMet Tryd.prog Rows.fnEvidenceRow.laid w) (fun _ _ _ hh h => h.of_heap hh) own started (by kernel_rfl) Tryd.func7
    (ChangeSpec.witness_at (enc := enc) (C := Tryd.checked) (os := os) (X := fun w _ => laidMet Tryd.prog Rows.fnEvidenceRow.laid w) false (tabWorld os) #[.slice none 0 0] 8 rfl (by kernel_rfl) (by kernel_rfl) (by kernel_rfl) (by kernel_rfl) (by kernel_rfl) (tabWorld_met os _)) ?_
  intro W base args ds gs before hval0 hW hcnd _ hL _
  have hval : ∀ (j : Nat) t v, Tryd.f7.params[j]? = some t → args[j]? = some v → Value.okWide Tryd.prog W .any base t v := hval0
  have hW' := hW
  obtain ⟨p, q, hA0, hV, rfl, hfz, hnd⟩ := hW
  have hA : DataW.TrodAll enc Tryd.prog W 0 (fun _ => true) true Tryd.f7.params.toList args.toList ds p := hA0
  rw [Tryd.params7] at hA hval
  obtain ⟨v0, vs0, d0, ds0, p0, q0, hargs, rfl, rfl, h0, r0⟩ := trodAll_cons hA
  obtain ⟨rfl, rfl, rfl⟩ := trodAll_nil r0
  obtain rfl : args = #[v0] := by cases args; simp_all
  have ht := tab_of_laid hL
  obtain ⟨A, n, c, rfl, l, hl⟩ := open_code (hval 0 53 v0 rfl rfl) h0
  refine (FnEvidence_walk A n c l W hl ht).mono fun r W' ⟨hr, hb⟩ => ?_
  subst hr
  exact ⟨_, rfl, law_post1 (f := Tryd.f7) (tb := 4) (t := 121) rfl Tryd.underlying4 rfl (by kernel_rfl) (by kernel_rfl) (by kernel_rfl) (fun d => rfl) (fun d => rfl) (fun d => rfl) hW' hb⟩

theorem FnEvidence_row : Rows.FnEvidenceSaid :=
  OpenClaim.holds_of_wide 7 Tryd.f7 rfl rfl rfl rfl rfl rfl rfl ⟨rfl, rfl, rfl, rfl, rfl⟩ rfl rfl rfl rfl rfl (by kernel_rfl) Tryd.func7 (by kernel_rfl)
    (of_decide_eq_true (by kernel_rfl)) (by unfold Func.isWrapper; first | (rw [if_pos (by decide +kernel)]; kernel_rfl) | (rw [if_neg (by decide +kernel)]; exact ⟨rfl, rfl⟩))
    (fun os started H enc _ => FnEvidence_lifted os started H enc)

theorem FnEvidence_holds : Rows.FnEvidenceCardSaid :=
  Claim7.holds_tied_plain_at .later [] [.data] true Rows.fnEvidenceCard.stood.harness false
    FnEvidence_row (fun _ h => by cases h) (by kernel_rfl) (fun _ h => by cases h) fnEvidence_row_tie rfl ⟨rfl, rfl⟩ (by kernel_rfl) rfl
    (fun f fn hf hfn => by
      obtain rfl : f = 7 := Option.some.inj ((show Tryd.prog.funcNamed "loop.example/g00946/laws.FnEvidence" = some 7 by kernel_rfl).symm.trans hf) |>.symm
      obtain rfl : fn = Tryd.f7 := (Option.some.inj (Tryd.func7.symm.trans hfn)).symm
      exact ⟨by kernel_rfl, fun j t ht => by
        rw [Tryd.params7] at ht
        have h3 : t = 53 := by
          rcases j with _ | j
          · simpa using ht.symm
          · simp at ht
        subst h3
        exact (show Tryd.prog.wantsStandIn 53 = false by kernel_rfl)⟩)
    (by kernel_rfl)

end Go.Proofs.YteaggbbimhpolaaDoor
