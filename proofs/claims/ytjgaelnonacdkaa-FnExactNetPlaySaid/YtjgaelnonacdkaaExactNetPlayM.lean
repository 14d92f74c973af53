/- The program's NetPlay returns what the reference's returns, for all arguments. No conditions. (written by wip/exnetplay.py) -/
import Derived.Deep.RegionWith
import Derived.Deep.DeepCutAuto
import Derived.Test.YtjgaelnonacdkaaG47
import Derived.Test.YtjgaelnonacdkaaG48
import Derived.Test.YtjgaelnonacdkaaMElNetAct
import Derived.Test.YtjgaelnonacdkaaG28
import Derived.Test.YtjgaelnonacdkaaL
namespace Go.Proofs.Ytjgaelnonacdkaa
open Go.ChangeShapes Go.WideShapes Go.ChangeAt Go.RowKit Go.Joins

theorem Chg.underP {lo hi B : Nat} {a b : World} (h : Chg lo hi a b) (hB : B ≤ lo ∨ hi ≤ lo) (hs : B ≤ a.heap.size) : Below B a b :=
  ⟨h.os, h.tape, h.output, h.size, fun k hk => h.block k (by omega) (by omega)⟩

set_option maxRecDepth 100000 in
set_option maxHeartbeats 8000000 in
theorem ExactNetPlay_walk (A : Option Addr) (n c : Nat) (l : List ActD) (w : World) (hl : RdL naC 8 w w.heap.size A n c l) :
    Calls Try.prog 3 #[.slice A n c] w fun e w' => e = .returned (.bool true) ∧ Below w.heap.size w w' := by
  obtain rfl : l.length = n := hl.1
  have hle := hl.le
  have HL := Lib.hid hl
  clear hl
  by_cases hbig : (1048576 : Int) < (l.length : Int)
  · go_enter Try.func3, Try.ntmps3
    go_wp2_with fail
    refine (szNetActS_any A l.length c 1048576 _ hle (by decide) (by decide)).mono ?_
    rintro e w1 ⟨rfl, rfl⟩
    rw [if_pos hbig]
    go_wp2_with fail
    go_ret
    exact ⟨rfl, Below.refl _ _⟩
  have hn : l.length ≤ 1048576 := by omega
  obtain ⟨r, hr⟩ : ∃ r, r = playN l := ⟨_, rfl⟩
  obtain ⟨hz1, hz2, hz3, hz4⟩ : szND r.1.1 ≤ 1000000 ∧ r.1.1.length ≤ 3 ∧ r.1.2.length ≤ 150 ∧ ∀ x ∈ r.1.1, x.l.length ≤ 1048576 := by rw [hr]; exact playN_small l
  have HR := Lib.hid hr
  clear hr hz4
  go_enter Try.func3, Try.ntmps3
  go_wp2_with fail
  refine (szNetActS_any A l.length c 1048576 _ hle (by decide) (by decide)).mono ?_
  rintro e w0 ⟨rfl, rfl⟩
  rw [if_neg (show ¬ (1048576 : Int) < (l.length : Int) by omega)]
  go_wp2_with fail
  refine (toNetActS_any A l.length c l _ HL.out hn).mono ?_
  intro e w1 h
  obtain ⟨At, ct, rfl, hown, hrt, hb⟩ := h.get rfl
  have B1 := Lib.hid hb
  have hs1 := hb.size
  have HT1 := Lib.hid hrt
  clear h hown hrt hb
  go_wp2_with fail
  refine (sNetPlay_any At l.length ct l _ HT1.out).mono ?_
  rintro e w2 ⟨Ap, cp, Pp, dp, lop, hip, he, hlop, hnp, hb⟩
  rw [← HR.out] at he hnp
  subst he
  have B2 := Lib.hid (B1.out.trans (hb.mono hs1))
  have hs2 := hb.size
  have hhp := hnp.hh
  have NP2 := Lib.hid hnp
  clear HT1 hnp hb
  go_upto_region 6 with fail
  obtain ⟨w3, hw3⟩ : ∃ q, q = w2.alloc (.cells #[.slice Ap r.1.1.length cp, .slice Pp r.1.2.length dp] 27) := ⟨_, rfl⟩
  rw [← hw3]
  have hb : Below w2.heap.size w2 w3 := by rw [hw3]; exact (Below.refl _ _).alloc (Nat.le_refl _) _
  have XP3 : Hid (Blk w3 w2.heap.size 27 #[.slice Ap r.1.1.length cp, .slice Pp r.1.2.length dp]) := Lib.hid (by rw [hw3]; exact heap_alloc_new w2 _)
  have B3 := Lib.hid (B2.out.trans (hb.mono B2.out.size))
  have hs3 := hb.size
  have hs3' : w2.heap.size + 1 ≤ w3.heap.size := XP3.out.lt
  have NP3 := Lib.hid (NP2.out.below hb)
  clear hw3 hb NP2
  go_wp2_with fail
  refine (toNetActS_any A l.length c l _ ((HL.out.below B3.out (Nat.le_refl _)).more B3.out.size) hn).mono ?_
  intro e w4 h
  obtain ⟨Ax, cx, rfl, hown, hrt, hb⟩ := h.get rfl
  obtain ⟨A2, c2, he, ho⟩ := OwnL.of_own (f := naC) (n := l.length) (l := l) rfl hown
  simp only [Value.slice.injEq, true_and] at he
  obtain ⟨rfl, rfl⟩ := he
  have OX4 := Lib.hid ho
  have B4 := Lib.hid (B3.out.trans (hb.mono B3.out.size))
  have hs4 := hb.size
  have NP4 := Lib.hid (NP3.out.below hb)
  have XP4 := Lib.hid (XP3.out.below hb XP3.out.lt)
  clear h hown hrt hb ho NP3 XP3
  go_wp2_with fail
  refine (NetPlay_any Ax l.length cx l _ ((OX4.out.rd naC_len).more (Nat.le_refl _))).mono ?_
  rintro e w5 ⟨Ag, cg, Pg, dg, m1, m2, he, hin, hb⟩
  rw [← HR.out] at he hin
  subst he
  have B5 := Lib.hid (B4.out.trans (hb.mono B4.out.size))
  have hs5 := hb.size
  have NG5 := Lib.hid hin
  have NP5 := Lib.hid (NP4.out.below hb)
  have XP5 := Lib.hid (XP4.out.below hb XP4.out.lt)
  have OX5 := Lib.hid (OX4.out.below hb (Nat.le_refl _))
  clear hin hb NP4 XP4 OX4
  obtain ⟨p1, p2, hpo, hpa, hpl, hph⟩ : ∃ p1 p2, OwnL msgC 5 49 w5 p1 p2 Pg r.1.2.length dg r.1.2 ∧ (p2 ≤ m1 ∨ m2 ≤ p1) ∧ w4.heap.size ≤ p1 ∧ p2 ≤ w5.heap.size := by
    obtain ⟨k1, k2, k3, k4, k5⟩ := NG5.out
    rcases k5 with k5 | k5
    · exact ⟨_, _, k5, .inl (Nat.le_refl _), Nat.le_refl _, by omega⟩
    · exact ⟨_, _, k5, .inr (Nat.le_refl _), by omega, Nat.le_refl _⟩
  have hq1 := NG5.out.h1
  have hq2 := NG5.out.h2
  have hq3 := NG5.out.h3
  have NQ := Lib.hid NG5.out.nodes
  have PQ := Lib.hid hpo
  clear hpo
  have K5 := Lib.hid (Chg.refl w3.heap.size w4.heap.size w5)
  go_upto_region 8 with fail
  obtain ⟨w6, hw6⟩ : ∃ q, q = w5.alloc (.cells #[.slice Ag r.1.1.length cg, .slice Pg r.1.2.length dg] 27) := ⟨_, rfl⟩
  rw [← hw6]
  have hb : Below w5.heap.size w5 w6 := by rw [hw6]; exact (Below.refl _ _).alloc (Nat.le_refl _) _
  have XG6 : Hid (Blk w6 w5.heap.size 27 #[.slice Ag r.1.1.length cg, .slice Pg r.1.2.length dg]) := Lib.hid (by rw [hw6]; exact heap_alloc_new w5 _)
  have B6 := Lib.hid (B5.out.trans (hb.mono B5.out.size))
  have K6 := Lib.hid (K5.out.trans (Chg.of_below hb))
  have hs6 := hb.size
  have hs6' : w5.heap.size + 1 ≤ w6.heap.size := XG6.out.lt
  have NP6 := Lib.hid (NP5.out.below hb)
  have NG6 := Lib.hid (NG5.out.below hb)
  have XP6 := Lib.hid (XP5.out.below hb XP5.out.lt)
  have OX6 := Lib.hid (OX5.out.chg (Chg.of_below (lo := 0) (hi := 0) hb) (.inr (Nat.zero_le _)))
  clear hw6 hb NP5 NG5 XP5 OX5
  have ceg := XG6.out.cell
  have lbg := XG6.out.lt
  have cep := XP6.out.cell
  have lbp := XP6.out.lt
  go_wp2_with fail
  refine (eqNet_same Ag r.1.1.length cg Pg r.1.2.length dg Ap cp Pp dp r.1.1 r.1.2 _ NG6.out.rdn NG6.out.rdp NP6.out.rdn NP6.out.rdp).mono ?_
  rintro e w7 ⟨rfl, hb⟩
  have B7 := Lib.hid (B6.out.trans (hb.mono B6.out.size))
  have K7 := Lib.hid (K6.out.trans (Chg.of_below hb))
  have hs7 := hb.size
  have NP7 := Lib.hid (NP6.out.below hb)
  have NG7 := Lib.hid (NG6.out.below hb)
  have XP7 := Lib.hid (XP6.out.below hb XP6.out.lt)
  have XG7 := Lib.hid (XG6.out.below hb XG6.out.lt)
  have OX7 := Lib.hid (OX6.out.chg (Chg.of_below (lo := 0) (hi := 0) hb) (.inr (Nat.zero_le _)))
  clear hb NP6 NG6 XP6 XG6 OX6 ceg lbg cep lbp
  go_wp2_with fail
  refine (toNetActS_any A l.length c l _ ((HL.out.below B7.out (Nat.le_refl _)).more B7.out.size) hn).mono ?_
  intro e w8 h
  obtain ⟨Au, cu, rfl, hown, hrt, hb⟩ := h.get rfl
  have B8 := Lib.hid (B7.out.trans (hb.mono B7.out.size))
  have K8 := Lib.hid (K7.out.trans (Chg.of_below hb))
  have hs8 := hb.size
  have RU8 := Lib.hid hrt
  have NP8 := Lib.hid (NP7.out.below hb)
  have NG8 := Lib.hid (NG7.out.below hb)
  have XP8 := Lib.hid (XP7.out.below hb XP7.out.lt)
  have XG8 := Lib.hid (XG7.out.below hb XG7.out.lt)
  have OX8 := Lib.hid (OX7.out.chg (Chg.of_below (lo := 0) (hi := 0) hb) (.inr (Nat.zero_le _)))
  clear h hown hrt hb NP7 NG7 XP7 XG7 OX7
  go_wp2_with fail
  refine (eqNetActS_same Ax l.length cx Au cu l _ ((OX8.out.rd naC_len).more (by omega)) RU8.out).mono ?_
  rintro e w9 ⟨rfl, hb⟩
  have B9 := Lib.hid (B8.out.trans (hb.mono B8.out.size))
  have K9 := Lib.hid (K8.out.trans (Chg.of_below hb))
  have hs9 := hb.size
  have NP9 := Lib.hid (NP8.out.below hb)
  have NG9 := Lib.hid (NG8.out.below hb)
  have XP9 := Lib.hid (XP8.out.below hb XP8.out.lt)
  have XG9 := Lib.hid (XG8.out.below hb XG8.out.lt)
  have OX9 := Lib.hid (OX8.out.chg (Chg.of_below (lo := 0) (hi := 0) hb) (.inr (Nat.zero_le _)))
  clear hb NP8 NG8 XP8 XG8 OX8 RU8
  go_wp2_with fail
  refine (markNetActS_any 51 Ax l.length cx l _ _ 1 _ OX9.out (by decide) (by omega) (by decide)).mono ?_
  rintro e w10 ⟨rfl, _, hg⟩
  have hs10 := hg.size
  have B10 := Lib.hid (B9.out.trans (hg.below (B := w.heap.size) (by omega) (by omega)))
  have K10 := Lib.hid (K9.out.trans hg)
  have NP10 := Lib.hid (NP9.out.chg hg (by omega))
  have NG10 := Lib.hid (NG9.out.chg hg (by omega))
  have XP10 : Hid (Blk w10 w2.heap.size 27 #[.slice Ap r.1.1.length cp, .slice Pp r.1.2.length dp]) := Lib.hid ((hg.block _ XP9.out.lt (by omega)).trans XP9.out)
  have XG10 : Hid (Blk w10 w5.heap.size 27 #[.slice Ag r.1.1.length cg, .slice Pg r.1.2.length dg]) := Lib.hid ((hg.block _ XG9.out.lt (by omega)).trans XG9.out)
  clear hg NP9 NG9 XP9 XG9 OX9
  have ceg := XG10.out.cell
  have lbg := XG10.out.lt
  have cep := XP10.out.cell
  have lbp := XP10.out.lt
  have hm0 : ¬ ((1 + l.length * 8 : Nat) : Int) < 0 := by omega
  go_wp2_with fail
  refine (eqNet_same Ag r.1.1.length cg Pg r.1.2.length dg Ap cp Pp dp r.1.1 r.1.2 _ NG10.out.rdn NG10.out.rdp NP10.out.rdn NP10.out.rdp).mono ?_
  rintro e w11 ⟨rfl, hb⟩
  have B11 := Lib.hid (B10.out.trans (hb.mono B10.out.size))
  have K11 := Lib.hid (K10.out.trans (Chg.of_below hb))
  have hs11 := hb.size
  have NP11 := Lib.hid (NP10.out.below hb)
  have NG11 := Lib.hid (NG10.out.below hb)
  have XP11 := Lib.hid (XP10.out.below hb XP10.out.lt)
  have XG11 := Lib.hid (XG10.out.below hb XG10.out.lt)
  clear hb NP10 NG10 XP10 XG10 ceg lbg cep lbp
  have ceg := XG11.out.cell
  have lbg := XG11.out.lt
  go_wp2_with fail
  refine (markNetX_any Ag r.1.1.length cg r.1.1 Pg r.1.2.length dg r.1.2 w4.heap.size w5.heap.size m1 m2 p1 p2 1 _ (NQ.out.chg K11.out (by omega)) (PQ.out.chg K11.out (by omega)) hpa hq1 hpl hq3 hph (by omega) (by decide) (by omega) (by omega) (by omega)).mono ?_
  rintro e w12 ⟨rfl, hg, lm, hmn, hmx, hmp⟩
  have hs12 := hg.size
  have B12 := Lib.hid (B11.out.trans (hg.below (B := w.heap.size) (by omega) (by omega)))
  have NP12 := Lib.hid (NP11.out.chg hg (by omega))
  have XP12 : Hid (Blk w12 w2.heap.size 27 #[.slice Ap r.1.1.length cp, .slice Pp r.1.2.length dp]) := Lib.hid ((hg.block _ XP11.out.lt (by omega)).trans XP11.out)
  have hold : Blk w12 w5.heap.size 27 #[.slice Ag r.1.1.length cg, .slice Pg r.1.2.length dg] := (hg.block _ XG11.out.lt (.inr (Nat.le_refl _))).trans XG11.out
  have XG12 := Lib.hid hold
  have MN12 := Lib.hid hmn
  have MP12 := Lib.hid hmp
  have MX := Lib.hid hmx
  clear hold hmn hmp hmx hg NP11 NG11 XP11 XG11 ceg lbg
  have ceg := XG12.out.cell
  have lbg := XG12.out.lt
  have hm1 : ¬ ((1 + szND r.1.1 + r.1.2.length * 5 : Nat) : Int) < 0 := by omega
  go_wp2_with fail
  refine (heldNetX_any Ag r.1.1.length cg r.1.1 lm Pg r.1.2.length dg 1 _ MN12.out MX.out MP12.out (by decide) (by omega) (by omega) (by omega)).mono ?_
  rintro e w13 ⟨rfl, hb⟩
  have B13 := Lib.hid (B12.out.trans (hb.mono B12.out.size))
  have hs13 := hb.size
  have NP13 := Lib.hid (NP12.out.below hb)
  have XP13 := Lib.hid (XP12.out.below hb XP12.out.lt)
  have XG13 := Lib.hid (XG12.out.below hb XG12.out.lt)
  have MN13 := Lib.hid ((MN12.out.below hb (Nat.le_refl _)).more hs13)
  have MP13 := Lib.hid ((MP12.out.below hb (Nat.le_refl _)).more hs13)
  clear hb NP12 XP12 XG12 MN12 MP12 ceg lbg
  go_wp2_with fail
  refine (toNetActS_any A l.length c l _ ((HL.out.below B13.out (Nat.le_refl _)).more B13.out.size) hn).mono ?_
  intro e w14 h
  obtain ⟨Av, cv, rfl, hown, hrt, hb⟩ := h.get rfl
  have B14 := Lib.hid (B13.out.trans (hb.mono B13.out.size))
  have hs14 := hb.size
  have RV14 := Lib.hid hrt
  have NP14 := Lib.hid (NP13.out.below hb)
  have XP14 := Lib.hid (XP13.out.below hb XP13.out.lt)
  have XG14 := Lib.hid (XG13.out.below hb XG13.out.lt)
  have MN14 := Lib.hid ((MN13.out.below hb (Nat.le_refl _)).more hs14)
  have MP14 := Lib.hid ((MP13.out.below hb (Nat.le_refl _)).more hs14)
  clear h hown hrt hb NP13 XP13 XG13 MN13 MP13
  go_wp2_with fail
  refine (NetPlay_any Av l.length cv l _ RV14.out).mono ?_
  rintro e w15 ⟨Ah, ch, Ph, dh, n1, n2, he, hin, hb⟩
  rw [← HR.out] at he hin
  subst he
  have B15 := Lib.hid (B14.out.trans (hb.mono B14.out.size))
  have hs15 := hb.size
  have NH15 := Lib.hid hin
  have NP15 := Lib.hid (NP14.out.below hb)
  have XP15 := Lib.hid (XP14.out.below hb XP14.out.lt)
  have XG15 := Lib.hid (XG14.out.below hb XG14.out.lt)
  have MN15 := Lib.hid ((MN14.out.below hb (Nat.le_refl _)).more hs15)
  have MP15 := Lib.hid ((MP14.out.below hb (Nat.le_refl _)).more hs15)
  clear hin hb NP14 XP14 XG14 MN14 MP14 RV14
  go_upto_region 25 with fail
  obtain ⟨w16, hw16⟩ : ∃ q, q = w15.alloc (.cells #[.slice Ah r.1.1.length ch, .slice Ph r.1.2.length dh] 27) := ⟨_, rfl⟩
  rw [← hw16]
  have hb : Below w15.heap.size w15 w16 := by rw [hw16]; exact (Below.refl _ _).alloc (Nat.le_refl _) _
  have XH16 : Hid (Blk w16 w15.heap.size 27 #[.slice Ah r.1.1.length ch, .slice Ph r.1.2.length dh]) := Lib.hid (by rw [hw16]; exact heap_alloc_new w15 _)
  have B16 := Lib.hid (B15.out.trans (hb.mono B15.out.size))
  have hs16 := hb.size
  have NH16 := Lib.hid (NH15.out.below hb)
  have NP16 := Lib.hid (NP15.out.below hb)
  have XP16 := Lib.hid (XP15.out.below hb XP15.out.lt)
  have XG16 := Lib.hid (XG15.out.below hb XG15.out.lt)
  have MN16 := Lib.hid ((MN15.out.below hb (Nat.le_refl _)).more hs16)
  have MP16 := Lib.hid ((MP15.out.below hb (Nat.le_refl _)).more hs16)
  clear hw16 hb NH15 NP15 XP15 XG15 MN15 MP15
  have ceh := XH16.out.cell
  have lbh := XH16.out.lt
  have cep := XP16.out.cell
  have lbp := XP16.out.lt
  go_wp2_with fail
  refine (eqNet_same Ah r.1.1.length ch Ph r.1.2.length dh Ap cp Pp dp r.1.1 r.1.2 _ NH16.out.rdn NH16.out.rdp NP16.out.rdn NP16.out.rdp).mono ?_
  rintro e w17 ⟨rfl, hb⟩
  have B17 := Lib.hid (B16.out.trans (hb.mono B16.out.size))
  have hs17 := hb.size
  have XG17 := Lib.hid (XG16.out.below hb XG16.out.lt)
  have MN17 := Lib.hid ((MN16.out.below hb (Nat.le_refl _)).more hs17)
  have MP17 := Lib.hid ((MP16.out.below hb (Nat.le_refl _)).more hs17)
  clear hb NH16 NP16 XP16 XG16 MN16 MP16 ceh lbh cep lbp XH16
  have ceg := XG17.out.cell
  have lbg := XG17.out.lt
  go_wp2_with fail
  refine (heldNetX_any Ag r.1.1.length cg r.1.1 lm Pg r.1.2.length dg 1 _ MN17.out MX.out MP17.out (by decide) (by omega) (by omega) (by omega)).mono ?_
  rintro e w18 ⟨rfl, hb⟩
  have B18 := Lib.hid (B17.out.trans (hb.mono B17.out.size))
  clear hb ceg lbg
  go_wp2_with fail
  go_ret
  exact ⟨rfl, B18.out⟩
set_option maxRecDepth 100000 in
  theorem ExactNetPlay_lifted (os : Os) (started : os.Started) (H : Type) (enc : TypeId × Value → H) :
      ReturnsInHanded {} Try.checked os 3 .any (Rows.fnExactNetPlaySpec.pre6 enc Try.prog Try.f3 Rows.fnExactNetPlayRow.domain false) (Rows.fnExactNetPlaySpec.post enc Try.prog Try.f3 false true false false) := by
  refine returnsInHanded_of_change (C := Try.checked) own started (by kernel_rfl) Try.func3
    (ChangeSpec.witness6 (enc := enc) (C := Try.checked) false ⟨#[], #[.slice none 0 0], []⟩ 8 (by kernel_rfl) (by kernel_rfl) (by kernel_rfl) (by kernel_rfl)) ?_
  intro W base args ds gs before hval0 hW hcnd _
  have hval : ∀ (j : Nat) t v, Try.f3.params[j]? = some t → args[j]? = some v → Value.okWide Try.prog W .any base t v := hval0
  have hW' := hW
  obtain ⟨p, q, hA0, hV, rfl, hfz, hnd⟩ := hW
  have hA : DataW.TrodAll enc Try.prog W 0 (fun _ => true) true Try.f3.params.toList args.toList ds p := hA0
  rw [Try.params3] at hA hval
  obtain ⟨v0, vs0, d0, ds0, p0, q0, hargs, rfl, rfl, h0, r0⟩ := trodAll_cons hA
  obtain ⟨rfl, rfl, rfl⟩ := trodAll_nil r0
  obtain rfl : args = #[v0] := by cases args; simp_all
  obtain ⟨a0, len, cap, rfl⟩ := okWide_slice Try.underlying22 (hval 0 22 v0 rfl rfl)
  obtain ⟨fuel, hfu⟩ := h0
  obtain ⟨A, n, c, he, l, hl⟩ := open_list Try.underlying22 (by kernel_rfl) (by decide) naC_len (fun cs y n h => na_el h) hfu
  simp only [Value.slice.injEq] at he
  obtain ⟨rfl, rfl, rfl⟩ := he
  refine (ExactNetPlay_walk a0 len cap l W hl).mono fun e W' ⟨he, hb⟩ => ?_
  subst he
  refine ⟨_, rfl, law_post (f := Try.f3) (tb := 4) rfl Try.underlying4 rfl (by kernel_rfl) (fun gs hg => by subst hg; rfl) (fun gs hg => by subst hg; rfl) (fun gs hg => by subst hg; rfl) hW' hb⟩

theorem ExactNetPlay_holds : Rows.FnExactNetPlaySaid :=
  OpenClaim.holds_of_wide 3 Try.f3 rfl rfl rfl rfl rfl rfl rfl ⟨rfl, rfl, rfl, rfl, rfl⟩ rfl rfl rfl rfl rfl (by kernel_rfl) Try.func3 (by kernel_rfl)
    (of_decide_eq_true (by kernel_rfl)) (by unfold Func.isWrapper; first | (rw [if_pos (by decide +kernel)]; kernel_rfl) | (rw [if_neg (by decide +kernel)]; exact ⟨rfl, rfl⟩))
    (fun os started H enc _ => ExactNetPlay_lifted os started H enc)
#print axioms ExactNetPlay_holds
end Go.Proofs.Ytjgaelnonacdkaa
