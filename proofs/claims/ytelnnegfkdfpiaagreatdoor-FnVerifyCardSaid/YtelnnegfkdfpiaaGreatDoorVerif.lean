/- The code of a verification: verified of the program, l11Why of the reference (written by wip/verif.py). -/
import Derived.Test.YtelnnegfkdfpiaaGreatDoorComOk
import Derived.Test.YtelnnegfkdfpiaaGreatDoorVerFact
import Derived.WalkKit
import Derived.WalkSpells
import Derived.WalkLawsBesides
import Derived.Lib.Hide
namespace Go.Proofs.YtelnnegfkdfpiaaGreatDoor
open Go.RowKit

set_option maxRecDepth 100000 in
set_option maxHeartbeats 8000000 in
theorem verified_any (per sl : Int) (a h : HeaderD) (A : Option Addr) (n c : Nat) (al : List ValD) (B : Option Addr) (m d : Nat) (nl : List ValD) (p : ComD) (D : Option Addr) (nk cq : Nat) (sg : List CSigD) (now : Int) (w : World) (hA : RdL valC 2 w w.heap.size A n c al) (hN : RdL valC 2 w w.heap.size B m d nl) (hS : RdL csigC 2 w w.heap.size D nk cq sg) (ht : Tab w) :
    Calls Tryz.prog 38 #[.agg #[.int .i64 per, .int .i64 sl], .agg #[.int .i64 a.h, .int .i64 a.t, .string a.last, .string a.vals, .string a.next, .string a.data, .slice A n c], .agg #[.int .i64 h.h, .int .i64 h.t, .string h.last, .string h.vals, .string h.next, .string h.data], .slice B m d, .agg #[.int .i64 p.h, .int .i64 p.r, .string p.id, .slice D nk cq], .int .i64 now] w fun e w' => e = .returned (.int .i64 (verN per sl a al h nl p sg now)) ∧ Below w.heap.size w w' := by
  have HA := Lib.hid hA
  have HN := Lib.hid hN
  have HS := Lib.hid hS
  clear hA hN hS
  have HT := Lib.hid ht
  have htp := ht.pos
  clear ht
  go_enter Tryz.func38, Tryz.ntmps38
  go_upto_region 1 with fail
  obtain ⟨v1, hwb⟩ : ∃ q, q = (((w.alloc (.cells #[.int .i64 per, .int .i64 sl] 25)).alloc (.cells #[.int .i64 a.h, .int .i64 a.t, .string a.last, .string a.vals, .string a.next, .string a.data, .slice A n c] 30)).alloc (.cells #[.int .i64 h.h, .int .i64 h.t, .string h.last, .string h.vals, .string h.next, .string h.data] 27)).alloc (.cells #[.int .i64 p.h, .int .i64 p.r, .string p.id, .slice D nk cq] 33) := ⟨_, rfl⟩
  rw [← hwb]
  have hxT : Blk v1 w.heap.size 25 #[.int .i64 per, .int .i64 sl] := by rw [hwb]; have h := heap_alloc_new w (.cells #[.int .i64 per, .int .i64 sl] 25); (try simp only [World.size_alloc] at h); exact (Blk.alloc (Blk.alloc (Blk.alloc h _) _) _)
  have hxA : Blk v1 (w.heap.size + 1) 30 #[.int .i64 a.h, .int .i64 a.t, .string a.last, .string a.vals, .string a.next, .string a.data, .slice A n c] := by rw [hwb]; have h := heap_alloc_new (w.alloc (.cells #[.int .i64 per, .int .i64 sl] 25)) (.cells #[.int .i64 a.h, .int .i64 a.t, .string a.last, .string a.vals, .string a.next, .string a.data, .slice A n c] 30); (try simp only [World.size_alloc] at h); exact (Blk.alloc (Blk.alloc h _) _)
  have hxH : Blk v1 (w.heap.size + 1 + 1) 27 #[.int .i64 h.h, .int .i64 h.t, .string h.last, .string h.vals, .string h.next, .string h.data] := by rw [hwb]; have h := heap_alloc_new ((w.alloc (.cells #[.int .i64 per, .int .i64 sl] 25)).alloc (.cells #[.int .i64 a.h, .int .i64 a.t, .string a.last, .string a.vals, .string a.next, .string a.data, .slice A n c] 30)) (.cells #[.int .i64 h.h, .int .i64 h.t, .string h.last, .string h.vals, .string h.next, .string h.data] 27); (try simp only [World.size_alloc] at h); exact (Blk.alloc h _)
  have hxC : Blk v1 (w.heap.size + 1 + 1 + 1) 33 #[.int .i64 p.h, .int .i64 p.r, .string p.id, .slice D nk cq] := by rw [hwb]; have h := heap_alloc_new (((w.alloc (.cells #[.int .i64 per, .int .i64 sl] 25)).alloc (.cells #[.int .i64 a.h, .int .i64 a.t, .string a.last, .string a.vals, .string a.next, .string a.data, .slice A n c] 30)).alloc (.cells #[.int .i64 h.h, .int .i64 h.t, .string h.last, .string h.vals, .string h.next, .string h.data] 27)) (.cells #[.int .i64 p.h, .int .i64 p.r, .string p.id, .slice D nk cq] 33); (try simp only [World.size_alloc] at h); exact h
  have hb0 : Below w.heap.size w v1 := by rw [hwb]; exact (Below.alloc (Below.alloc (Below.alloc (Below.alloc (Below.refl _ _) (by first | exact Nat.le_refl _ | (simp; done) | (simp; omega)) _) (by first | exact Nat.le_refl _ | (simp; done) | (simp; omega)) _) (by first | exact Nat.le_refl _ | (simp; done) | (simp; omega)) _) (by first | exact Nat.le_refl _ | (simp; done) | (simp; omega)) _)
  clear hwb
  have hs1 := hb0.size
  have XT1 := Lib.hid hxT
  have ltT := hxT.lt
  clear hxT
  have XA1 := Lib.hid hxA
  have ltA := hxA.lt
  clear hxA
  have XH1 := Lib.hid hxH
  have ltH := hxH.lt
  clear hxH
  have XC1 := Lib.hid hxC
  have ltC := hxC.lt
  clear hxC
  have B1 := Lib.hid hb0
  clear hb0
  have RA1 := Lib.hid ((HA.out.below B1.out (Nat.le_refl _)).more B1.out.size)
  have RN1 := Lib.hid ((HN.out.below B1.out (Nat.le_refl _)).more B1.out.size)
  have RS1 := Lib.hid ((HS.out.below B1.out (Nat.le_refl _)).more B1.out.size)
  clear HA HN HS
  cases g1 : trustB per sl
  · have HE : Hid (verN per sl a al h nl p sg now = 1) := Lib.hid (ver1 (by unfold verG; simp [g1]))
    have ceXT := XT1.out.cell
    have lbXT := XT1.out.lt
    have ceXA := XA1.out.cell
    have lbXA := XA1.out.lt
    have ceXH := XH1.out.cell
    have lbXH := XH1.out.lt
    have ceXC := XC1.out.cell
    have lbXC := XC1.out.lt
    go_wp2_with fail
    refine (TrustOk_any per sl _).mono ?_
    rw [g1]
    rintro e v2 ⟨rfl, hb⟩
    go_wp2_with fail
    go_ret
    exact ⟨by rw [HE.out]; rfl, B1.out.trans (hb.mono B1.out.size)⟩
  have ceXT := XT1.out.cell
  have lbXT := XT1.out.lt
  have ceXA := XA1.out.cell
  have lbXA := XA1.out.lt
  have ceXH := XH1.out.cell
  have lbXH := XH1.out.lt
  have ceXC := XC1.out.cell
  have lbXC := XC1.out.lt
  go_wp2_with fail
  refine (TrustOk_any per sl _).mono ?_
  rintro e v2 ⟨rfl, hb⟩
  rw [g1]
  clear ceXT lbXT ceXA lbXA ceXH lbXH ceXC lbXC
  have hs2 := hb.size
  have XT2 := Lib.hid (XT1.out.below hb XT1.out.lt)
  have XA2 := Lib.hid (XA1.out.below hb XA1.out.lt)
  have XH2 := Lib.hid (XH1.out.below hb XH1.out.lt)
  have XC2 := Lib.hid (XC1.out.below hb XC1.out.lt)
  have B2 := Lib.hid (B1.out.trans (hb.mono B1.out.size))
  have RA2 := Lib.hid ((RA1.out.below hb (Nat.le_refl _)).more hs2)
  have RN2 := Lib.hid ((RN1.out.below hb (Nat.le_refl _)).more hs2)
  have RS2 := Lib.hid ((RS1.out.below hb (Nat.le_refl _)).more hs2)
  clear hb XT1 XA1 XH1 XC1 B1 RA1 RN1 RS1
  cases g2 : anchorB a al
  · have HE : Hid (verN per sl a al h nl p sg now = 1) := Lib.hid (ver1 (by unfold verG; simp [g2]))
    have ceXT := XT2.out.cell
    have lbXT := XT2.out.lt
    have ceXA := XA2.out.cell
    have lbXA := XA2.out.lt
    have ceXH := XH2.out.cell
    have lbXH := XH2.out.lt
    have ceXC := XC2.out.cell
    have lbXC := XC2.out.lt
    go_wp2_with fail
    refine (AnchorOk_any a A n c al _ RA2.out (HT.out.below B2.out htp)).mono ?_
    rw [g2]
    rintro e v3 ⟨rfl, hb⟩
    go_wp2_with fail
    go_ret
    exact ⟨by rw [HE.out]; rfl, B2.out.trans (hb.mono B2.out.size)⟩
  have ceXT := XT2.out.cell
  have lbXT := XT2.out.lt
  have ceXA := XA2.out.cell
  have lbXA := XA2.out.lt
  have ceXH := XH2.out.cell
  have lbXH := XH2.out.lt
  have ceXC := XC2.out.cell
  have lbXC := XC2.out.lt
  go_wp2_with fail
  refine (AnchorOk_any a A n c al _ RA2.out (HT.out.below B2.out htp)).mono ?_
  rintro e v3 ⟨rfl, hb⟩
  rw [g2]
  clear ceXT lbXT ceXA lbXA ceXH lbXH ceXC lbXC
  have hs3 := hb.size
  have XT3 := Lib.hid (XT2.out.below hb XT2.out.lt)
  have XA3 := Lib.hid (XA2.out.below hb XA2.out.lt)
  have XH3 := Lib.hid (XH2.out.below hb XH2.out.lt)
  have XC3 := Lib.hid (XC2.out.below hb XC2.out.lt)
  have B3 := Lib.hid (B2.out.trans (hb.mono B2.out.size))
  have RA3 := Lib.hid ((RA2.out.below hb (Nat.le_refl _)).more hs3)
  have RN3 := Lib.hid ((RN2.out.below hb (Nat.le_refl _)).more hs3)
  have RS3 := Lib.hid ((RS2.out.below hb (Nat.le_refl _)).more hs3)
  clear hb XT2 XA2 XH2 XC2 B2 RA2 RN2 RS2
  cases g3 : hdrB h
  · have HE : Hid (verN per sl a al h nl p sg now = 1) := Lib.hid (ver1 (by unfold verG; simp [g3]))
    have ceXT := XT3.out.cell
    have lbXT := XT3.out.lt
    have ceXA := XA3.out.cell
    have lbXA := XA3.out.lt
    have ceXH := XH3.out.cell
    have lbXH := XH3.out.lt
    have ceXC := XC3.out.cell
    have lbXC := XC3.out.lt
    go_wp2_with fail
    refine (HeaderOk_any h _).mono ?_
    rw [g3]
    rintro e v4 ⟨rfl, hb⟩
    go_wp2_with fail
    go_ret
    exact ⟨by rw [HE.out]; rfl, B3.out.trans (hb.mono B3.out.size)⟩
  have ceXT := XT3.out.cell
  have lbXT := XT3.out.lt
  have ceXA := XA3.out.cell
  have lbXA := XA3.out.lt
  have ceXH := XH3.out.cell
  have lbXH := XH3.out.lt
  have ceXC := XC3.out.cell
  have lbXC := XC3.out.lt
  go_wp2_with fail
  refine (HeaderOk_any h _).mono ?_
  rintro e v4 ⟨rfl, hb⟩
  rw [g3]
  clear ceXT lbXT ceXA lbXA ceXH lbXH ceXC lbXC
  have hs4 := hb.size
  have XT4 := Lib.hid (XT3.out.below hb XT3.out.lt)
  have XA4 := Lib.hid (XA3.out.below hb XA3.out.lt)
  have XH4 := Lib.hid (XH3.out.below hb XH3.out.lt)
  have XC4 := Lib.hid (XC3.out.below hb XC3.out.lt)
  have B4 := Lib.hid (B3.out.trans (hb.mono B3.out.size))
  have RA4 := Lib.hid ((RA3.out.below hb (Nat.le_refl _)).more hs4)
  have RN4 := Lib.hid ((RN3.out.below hb (Nat.le_refl _)).more hs4)
  have RS4 := Lib.hid ((RS3.out.below hb (Nat.le_refl _)).more hs4)
  clear hb XT3 XA3 XH3 XC3 B3 RA3 RN3 RS3
  cases g4 : inB now 0 1000000
  · have HE : Hid (verN per sl a al h nl p sg now = 1) := Lib.hid (ver1 (by unfold verG; simp [g4]))
    have ceXT := XT4.out.cell
    have lbXT := XT4.out.lt
    have ceXA := XA4.out.cell
    have lbXA := XA4.out.lt
    have ceXH := XH4.out.cell
    have lbXH := XH4.out.lt
    have ceXC := XC4.out.cell
    have lbXC := XC4.out.lt
    go_wp2_with fail
    refine (isTime_any now _).mono ?_
    rw [g4]
    rintro e v5 ⟨rfl, rfl⟩
    go_wp2_with fail
    go_ret
    exact ⟨by rw [HE.out]; rfl, B4.out⟩
  have gg : verG per sl a al h now = true := by unfold verG; rw [g1, g2, g3, g4]; rfl
  obtain ⟨p0, p1, q0, q1⟩ := trustB_bd g1
  obtain ⟨a0, a1, a2, a3, _⟩ := hdrB_bd (anchorB_hdr g2)
  obtain ⟨h0, h1, h2, h3, _⟩ := hdrB_bd g3
  obtain ⟨n0, n1⟩ := inB_bd g4
  have HX := Lib.hid (expiresN_yes per sl a.t g1 (by rw [inB_iff]; omega))
  have ceXT := XT4.out.cell
  have lbXT := XT4.out.lt
  have ceXA := XA4.out.cell
  have lbXA := XA4.out.lt
  have ceXH := XH4.out.cell
  have lbXH := XH4.out.lt
  have ceXC := XC4.out.cell
  have lbXC := XC4.out.lt
  go_wp2_with fail
  refine (isTime_any now _).mono ?_
  rw [g4]
  rintro e v5 ⟨rfl, rfl⟩
  have G3 := Lib.hid g3
  clear g1 g2 g3 g4
  clear ceXT lbXT ceXA lbXA ceXH lbXH ceXC lbXC
  have ceXT := XT4.out.cell
  have lbXT := XT4.out.lt
  have ceXA := XA4.out.cell
  have lbXA := XA4.out.lt
  have ceXH := XH4.out.cell
  have lbXH := XH4.out.lt
  have ceXC := XC4.out.cell
  have lbXC := XC4.out.lt
  go_wp2_with fail
  refine (Expires_any per sl a.t _).mono ?_
  rintro e v5 ⟨rfl, hb⟩
  rw [HX.out]
  clear ceXT lbXT ceXA lbXA ceXH lbXH ceXC lbXC
  have hs5 := hb.size
  have XT5 := Lib.hid (XT4.out.below hb XT4.out.lt)
  have XA5 := Lib.hid (XA4.out.below hb XA4.out.lt)
  have XH5 := Lib.hid (XH4.out.below hb XH4.out.lt)
  have XC5 := Lib.hid (XC4.out.below hb XC4.out.lt)
  have B5 := Lib.hid (B4.out.trans (hb.mono B4.out.size))
  have RA5 := Lib.hid ((RA4.out.below hb (Nat.le_refl _)).more hs5)
  have RN5 := Lib.hid ((RN4.out.below hb (Nat.le_refl _)).more hs5)
  have RS5 := Lib.hid ((RS4.out.below hb (Nat.le_refl _)).more hs5)
  clear hb XT4 XA4 XH4 XC4 B4 RA4 RN4 RS4
  by_cases k2 : a.t + per < now
  · have HE := Lib.hid (ver2 (nl := nl) (p := p) (sg := sg) gg k2)
    have ceXT := XT5.out.cell
    have lbXT := XT5.out.lt
    have ceXA := XA5.out.cell
    have lbXA := XA5.out.lt
    have ceXH := XH5.out.cell
    have lbXH := XH5.out.lt
    have ceXC := XC5.out.cell
    have lbXC := XC5.out.lt
    go_wp2_with fail
    go_ret
    exact ⟨by rw [HE.out]; rfl, B5.out⟩
  have K2 := Lib.hid k2
  by_cases k3 : now + sl < h.t
  · have HE := Lib.hid (ver3 (nl := nl) (p := p) (sg := sg) gg (by have := K2.out; omega) k3)
    have ceXT := XT5.out.cell
    have lbXT := XT5.out.lt
    have ceXA := XA5.out.cell
    have lbXA := XA5.out.lt
    have ceXH := XH5.out.cell
    have lbXH := XH5.out.lt
    have ceXC := XC5.out.cell
    have lbXC := XC5.out.lt
    go_wp2_with fail
    go_ret
    exact ⟨by rw [HE.out]; rfl, B5.out⟩
  have K3 := Lib.hid k3
  cases k4 : (h.h != a.h + 1)
  rotate_left
  · have HE := Lib.hid (ver4 (nl := nl) (p := p) (sg := sg) gg (by have := K2.out; omega) (by have := K3.out; omega) (show ¬ h.h = a.h + 1 by simpa using k4))
    have ceXT := XT5.out.cell
    have lbXT := XT5.out.lt
    have ceXA := XA5.out.cell
    have lbXA := XA5.out.lt
    have ceXH := XH5.out.cell
    have lbXH := XH5.out.lt
    have ceXC := XC5.out.cell
    have lbXC := XC5.out.lt
    go_wp2_with fail
    go_ret
    exact ⟨by rw [HE.out]; rfl, B5.out⟩
  have K4 := Lib.hid (show h.h = a.h + 1 by simpa using k4)
  by_cases k5 : h.t ≤ a.t
  · have HE := Lib.hid (ver5 (nl := nl) (p := p) (sg := sg) gg (by have := K2.out; omega) (by have := K3.out; omega) K4.out k5)
    have ceXT := XT5.out.cell
    have lbXT := XT5.out.lt
    have ceXA := XA5.out.cell
    have lbXA := XA5.out.lt
    have ceXH := XH5.out.cell
    have lbXH := XH5.out.lt
    have ceXC := XC5.out.cell
    have lbXC := XC5.out.lt
    go_wp2_with fail
    go_ret
    exact ⟨by rw [HE.out]; rfl, B5.out⟩
  have K5 := Lib.hid k5
  cases g6 : (h.last.toList == (headIdB a).toList)
  · have HE := Lib.hid (ver6 (nl := nl) (p := p) (sg := sg) gg (by have := K2.out; omega) (by have := K3.out; omega) K4.out (by have := K5.out; omega) g6)
    have ceXT := XT5.out.cell
    have lbXT := XT5.out.lt
    have ceXA := XA5.out.cell
    have lbXA := XA5.out.lt
    have ceXH := XH5.out.cell
    have lbXH := XH5.out.lt
    have ceXC := XC5.out.cell
    have lbXC := XC5.out.lt
    go_upto_region 11 with fail
    refine wp_region_below (by kernel_rfl) (by kernel_rfl) ?_
    repeat (first | go_big_quiet_skip | (go_big_quiet_want; go_big_quiet_op; first | go_big_quiet_on | (apply Exists.intro; refine ⟨fun w1 hC => ?_, ?_⟩; (focus (first | rfl | (go_at_call 72; exact quiet_below hC (HeadId_any a _ (by exact (HT.out.below B5.out htp).below hC (by omega)))) | (simp [(bcell hC).1, ceXA, lbXA, ceXH, lbXH]; done) | (simp [(bcell hC).1, ceXA, lbXA, ceXH, lbXH]; rfl))); go_big_quiet_on)))
    refine wpQuiet_nil ?_
    intro w2 hb2
    obtain ⟨hc2, hf2, hz2⟩ := bcell hb2
    go_wp2_with fail
    go_ret
    exact ⟨by rw [HE.out]; rfl, B5.out.trans (hb2.mono B5.out.size)⟩
  have ceXT := XT5.out.cell
  have lbXT := XT5.out.lt
  have ceXA := XA5.out.cell
  have lbXA := XA5.out.lt
  have ceXH := XH5.out.cell
  have lbXH := XH5.out.lt
  have ceXC := XC5.out.cell
  have lbXC := XC5.out.lt
  go_upto_region 11 with fail
  refine wp_region_below (by kernel_rfl) (by kernel_rfl) ?_
  repeat (first | go_big_quiet_skip | (go_big_quiet_want; go_big_quiet_op; first | go_big_quiet_on | (apply Exists.intro; refine ⟨fun w1 hC => ?_, ?_⟩; (focus (first | rfl | (go_at_call 72; exact quiet_below hC (HeadId_any a _ (by exact (HT.out.below B5.out htp).below hC (by omega)))) | (simp [(bcell hC).1, ceXA, lbXA, ceXH, lbXH]; done) | (simp [(bcell hC).1, ceXA, lbXA, ceXH, lbXH]; rfl))); go_big_quiet_on)))
  refine wpQuiet_nil ?_
  intro w2 hb2
  obtain ⟨hc2, hf2, hz2⟩ := bcell hb2
  clear hc2 hf2 hz2
  obtain ⟨v6, hwv⟩ : ∃ q, q = w2 := ⟨_, rfl⟩
  subst hwv
  have hb := hb2
  clear hb2
  clear ceXT lbXT ceXA lbXA ceXH lbXH ceXC lbXC
  have hs6 := hb.size
  have XT6 := Lib.hid (XT5.out.below hb XT5.out.lt)
  have XA6 := Lib.hid (XA5.out.below hb XA5.out.lt)
  have XH6 := Lib.hid (XH5.out.below hb XH5.out.lt)
  have XC6 := Lib.hid (XC5.out.below hb XC5.out.lt)
  have B6 := Lib.hid (B5.out.trans (hb.mono B5.out.size))
  have RA6 := Lib.hid ((RA5.out.below hb (Nat.le_refl _)).more hs6)
  have RN6 := Lib.hid ((RN5.out.below hb (Nat.le_refl _)).more hs6)
  have RS6 := Lib.hid ((RS5.out.below hb (Nat.le_refl _)).more hs6)
  clear hb XT5 XA5 XH5 XC5 B5 RA5 RN5 RS5
  cases g7 : (h.vals.toList == a.next.toList)
  · have HE := Lib.hid (ver7 (nl := nl) (p := p) (sg := sg) gg (by have := K2.out; omega) (by have := K3.out; omega) K4.out (by have := K5.out; omega) g6 g7)
    have ceXT := XT6.out.cell
    have lbXT := XT6.out.lt
    have ceXA := XA6.out.cell
    have lbXA := XA6.out.lt
    have ceXH := XH6.out.cell
    have lbXH := XH6.out.lt
    have ceXC := XC6.out.cell
    have lbXC := XC6.out.lt
    go_wp2_with fail
    go_ret
    exact ⟨by rw [HE.out]; rfl, B6.out⟩
  cases g8 : (h.next.toList == (valsHashB nl).toList)
  · have HE := Lib.hid (ver8 (p := p) (sg := sg) gg (by have := K2.out; omega) (by have := K3.out; omega) K4.out (by have := K5.out; omega) g6 g7 g8)
    have ceXT := XT6.out.cell
    have lbXT := XT6.out.lt
    have ceXA := XA6.out.cell
    have lbXA := XA6.out.lt
    have ceXH := XH6.out.cell
    have lbXH := XH6.out.lt
    have ceXC := XC6.out.cell
    have lbXC := XC6.out.lt
    go_upto_region 15 with fail
    refine wp_region_below (by kernel_rfl) (by kernel_rfl) ?_
    repeat (first | go_big_quiet_skip | (go_big_quiet_want; go_big_quiet_op; first | go_big_quiet_on | (apply Exists.intro; refine ⟨fun w1 hC => ?_, ?_⟩; (focus (first | rfl | (go_at_call 73; exact quiet_below hC (ValsHash_any B m d nl _ (by exact (RN6.out.below hC (Nat.le_refl _)).more hC.size) (by exact (HT.out.below B6.out htp).below hC (by omega)))) | (simp [(bcell hC).1, ceXH, lbXH]; done) | (simp [(bcell hC).1, ceXH, lbXH]; rfl))); go_big_quiet_on)))
    refine wpQuiet_nil ?_
    intro w2 hb2
    obtain ⟨hc2, hf2, hz2⟩ := bcell hb2
    go_wp2_with fail
    go_ret
    exact ⟨by rw [HE.out]; rfl, B6.out.trans (hb2.mono B6.out.size)⟩
  have ceXT := XT6.out.cell
  have lbXT := XT6.out.lt
  have ceXA := XA6.out.cell
  have lbXA := XA6.out.lt
  have ceXH := XH6.out.cell
  have lbXH := XH6.out.lt
  have ceXC := XC6.out.cell
  have lbXC := XC6.out.lt
  go_upto_region 15 with fail
  refine wp_region_below (by kernel_rfl) (by kernel_rfl) ?_
  repeat (first | go_big_quiet_skip | (go_big_quiet_want; go_big_quiet_op; first | go_big_quiet_on | (apply Exists.intro; refine ⟨fun w1 hC => ?_, ?_⟩; (focus (first | rfl | (go_at_call 73; exact quiet_below hC (ValsHash_any B m d nl _ (by exact (RN6.out.below hC (Nat.le_refl _)).more hC.size) (by exact (HT.out.below B6.out htp).below hC (by omega)))) | (simp [(bcell hC).1, ceXH, lbXH]; done) | (simp [(bcell hC).1, ceXH, lbXH]; rfl))); go_big_quiet_on)))
  refine wpQuiet_nil ?_
  intro w2 hb2
  obtain ⟨hc2, hf2, hz2⟩ := bcell hb2
  clear hc2 hf2 hz2
  obtain ⟨v7, hwv⟩ : ∃ q, q = w2 := ⟨_, rfl⟩
  subst hwv
  have hb := hb2
  clear hb2
  clear ceXT lbXT ceXA lbXA ceXH lbXH ceXC lbXC
  have hs7 := hb.size
  have XT7 := Lib.hid (XT6.out.below hb XT6.out.lt)
  have XA7 := Lib.hid (XA6.out.below hb XA6.out.lt)
  have XH7 := Lib.hid (XH6.out.below hb XH6.out.lt)
  have XC7 := Lib.hid (XC6.out.below hb XC6.out.lt)
  have B7 := Lib.hid (B6.out.trans (hb.mono B6.out.size))
  have RA7 := Lib.hid ((RA6.out.below hb (Nat.le_refl _)).more hs7)
  have RN7 := Lib.hid ((RN6.out.below hb (Nat.le_refl _)).more hs7)
  have RS7 := Lib.hid ((RS6.out.below hb (Nat.le_refl _)).more hs7)
  clear hb XT6 XA6 XH6 XC6 B6 RA6 RN6 RS6
  have HCO := Lib.hid (CommitOk_any h p A n c al D nk cq sg _ RA7.out RS7.out (HT.out.below B7.out htp))
  cases g9 : comB al h p sg
  · have HE := Lib.hid ((ver9 (p := p) (sg := sg) gg (by have := K2.out; omega) (by have := K3.out; omega) K4.out (by have := K5.out; omega) g6 g7 g8).trans (if_pos g9))
    rw [g9] at HCO
    clear g6 g7 g8 g9
    have ceXT := XT7.out.cell
    have lbXT := XT7.out.lt
    have ceXA := XA7.out.cell
    have lbXA := XA7.out.lt
    have ceXH := XH7.out.cell
    have lbXH := XH7.out.lt
    have ceXC := XC7.out.cell
    have lbXC := XC7.out.lt
    go_wp2_with fail
    refine HCO.out.mono ?_
    rintro e vz ⟨rfl, hb⟩
    go_wp2_with fail
    go_ret
    exact ⟨by rw [HE.out]; rfl, B7.out.trans (hb.mono B7.out.size)⟩
  · have HE := Lib.hid ((ver9 (p := p) (sg := sg) gg (by have := K2.out; omega) (by have := K3.out; omega) K4.out (by have := K5.out; omega) g6 g7 g8).trans (if_neg (by rw [g9]; decide)))
    rw [g9] at HCO
    clear g6 g7 g8 g9
    have ceXT := XT7.out.cell
    have lbXT := XT7.out.lt
    have ceXA := XA7.out.cell
    have lbXA := XA7.out.lt
    have ceXH := XH7.out.cell
    have lbXH := XH7.out.lt
    have ceXC := XC7.out.cell
    have lbXC := XC7.out.lt
    go_wp2_with fail
    refine HCO.out.mono ?_
    rintro e vz ⟨rfl, hb⟩
    go_wp2_with fail
    go_ret
    exact ⟨by rw [HE.out]; rfl, B7.out.trans (hb.mono B7.out.size)⟩
set_option maxRecDepth 100000 in
set_option maxHeartbeats 8000000 in
theorem l11Why_any (per sl : Int) (a h : HeaderD) (A : Option Addr) (n c : Nat) (al : List ValD) (B : Option Addr) (m d : Nat) (nl : List ValD) (p : ComD) (D : Option Addr) (nk cq : Nat) (sg : List CSigD) (now : Int) (w : World) (hA : RdL valC 2 w w.heap.size A n c al) (hN : RdL valC 2 w w.heap.size B m d nl) (hS : RdL csigC 2 w w.heap.size D nk cq sg) (gg : verG per sl a al h now = true) :
    Calls Tryz.prog 45 #[.agg #[.int .i64 per, .int .i64 sl], .agg #[.int .i64 a.h, .int .i64 a.t, .string a.last, .string a.vals, .string a.next, .string a.data, .slice A n c], .agg #[.int .i64 h.h, .int .i64 h.t, .string h.last, .string h.vals, .string h.next, .string h.data], .slice B m d, .agg #[.int .i64 p.h, .int .i64 p.r, .string p.id, .slice D nk cq], .int .i64 now] w fun e w' => e = .returned (.int .i64 (verN per sl a al h nl p sg now)) ∧ Below w.heap.size w w' := by
  have HA := Lib.hid hA
  have HN := Lib.hid hN
  have HS := Lib.hid hS
  clear hA hN hS
  go_enter Tryz.func45, Tryz.ntmps45
  go_upto_region 1 with fail
  obtain ⟨v1, hwb⟩ : ∃ q, q = (((w.alloc (.cells #[.int .i64 per, .int .i64 sl] 25)).alloc (.cells #[.int .i64 a.h, .int .i64 a.t, .string a.last, .string a.vals, .string a.next, .string a.data, .slice A n c] 30)).alloc (.cells #[.int .i64 h.h, .int .i64 h.t, .string h.last, .string h.vals, .string h.next, .string h.data] 27)).alloc (.cells #[.int .i64 p.h, .int .i64 p.r, .string p.id, .slice D nk cq] 33) := ⟨_, rfl⟩
  rw [← hwb]
  have hxT : Blk v1 w.heap.size 25 #[.int .i64 per, .int .i64 sl] := by rw [hwb]; have h := heap_alloc_new w (.cells #[.int .i64 per, .int .i64 sl] 25); (try simp only [World.size_alloc] at h); exact (Blk.alloc (Blk.alloc (Blk.alloc h _) _) _)
  have hxA : Blk v1 (w.heap.size + 1) 30 #[.int .i64 a.h, .int .i64 a.t, .string a.last, .string a.vals, .string a.next, .string a.data, .slice A n c] := by rw [hwb]; have h := heap_alloc_new (w.alloc (.cells #[.int .i64 per, .int .i64 sl] 25)) (.cells #[.int .i64 a.h, .int .i64 a.t, .string a.last, .string a.vals, .string a.next, .string a.data, .slice A n c] 30); (try simp only [World.size_alloc] at h); exact (Blk.alloc (Blk.alloc h _) _)
  have hxH : Blk v1 (w.heap.size + 1 + 1) 27 #[.int .i64 h.h, .int .i64 h.t, .string h.last, .string h.vals, .string h.next, .string h.data] := by rw [hwb]; have h := heap_alloc_new ((w.alloc (.cells #[.int .i64 per, .int .i64 sl] 25)).alloc (.cells #[.int .i64 a.h, .int .i64 a.t, .string a.last, .string a.vals, .string a.next, .string a.data, .slice A n c] 30)) (.cells #[.int .i64 h.h, .int .i64 h.t, .string h.last, .string h.vals, .string h.next, .string h.data] 27); (try simp only [World.size_alloc] at h); exact (Blk.alloc h _)
  have hxC : Blk v1 (w.heap.size + 1 + 1 + 1) 33 #[.int .i64 p.h, .int .i64 p.r, .string p.id, .slice D nk cq] := by rw [hwb]; have h := heap_alloc_new (((w.alloc (.cells #[.int .i64 per, .int .i64 sl] 25)).alloc (.cells #[.int .i64 a.h, .int .i64 a.t, .string a.last, .string a.vals, .string a.next, .string a.data, .slice A n c] 30)).alloc (.cells #[.int .i64 h.h, .int .i64 h.t, .string h.last, .string h.vals, .string h.next, .string h.data] 27)) (.cells #[.int .i64 p.h, .int .i64 p.r, .string p.id, .slice D nk cq] 33); (try simp only [World.size_alloc] at h); exact h
  have hb0 : Below w.heap.size w v1 := by rw [hwb]; exact (Below.alloc (Below.alloc (Below.alloc (Below.alloc (Below.refl _ _) (by first | exact Nat.le_refl _ | (simp; done) | (simp; omega)) _) (by first | exact Nat.le_refl _ | (simp; done) | (simp; omega)) _) (by first | exact Nat.le_refl _ | (simp; done) | (simp; omega)) _) (by first | exact Nat.le_refl _ | (simp; done) | (simp; omega)) _)
  clear hwb
  have hs1 := hb0.size
  have XT1 := Lib.hid hxT
  have ltT := hxT.lt
  clear hxT
  have XA1 := Lib.hid hxA
  have ltA := hxA.lt
  clear hxA
  have XH1 := Lib.hid hxH
  have ltH := hxH.lt
  clear hxH
  have XC1 := Lib.hid hxC
  have ltC := hxC.lt
  clear hxC
  have B1 := Lib.hid hb0
  clear hb0
  have RA1 := Lib.hid ((HA.out.below B1.out (Nat.le_refl _)).more B1.out.size)
  have RN1 := Lib.hid ((HN.out.below B1.out (Nat.le_refl _)).more B1.out.size)
  have RS1 := Lib.hid ((HS.out.below B1.out (Nat.le_refl _)).more B1.out.size)
  clear HA HN HS
  have gq := gg
  unfold verG at gq
  rw [Bool.and_eq_true, Bool.and_eq_true, Bool.and_eq_true] at gq
  obtain ⟨g1, g2, g3, g4⟩ := gq
  obtain ⟨p0, p1, q0, q1⟩ := trustB_bd g1
  obtain ⟨a0, a1, a2, a3, _⟩ := hdrB_bd (anchorB_hdr g2)
  obtain ⟨h0, h1, h2, h3, _⟩ := hdrB_bd g3
  obtain ⟨n0, n1⟩ := inB_bd g4
  have G3 := Lib.hid g3
  clear g1 g2 g3 g4
  by_cases k2 : a.t + per < now
  · have HE := Lib.hid (ver2 (nl := nl) (p := p) (sg := sg) gg k2)
    have ceXT := XT1.out.cell
    have lbXT := XT1.out.lt
    have ceXA := XA1.out.cell
    have lbXA := XA1.out.lt
    have ceXH := XH1.out.cell
    have lbXH := XH1.out.lt
    have ceXC := XC1.out.cell
    have lbXC := XC1.out.lt
    go_wp2_with fail
    go_ret
    exact ⟨by rw [HE.out]; rfl, B1.out⟩
  have K2 := Lib.hid k2
  by_cases k3 : now + sl < h.t
  · have HE := Lib.hid (ver3 (nl := nl) (p := p) (sg := sg) gg (by have := K2.out; omega) k3)
    have ceXT := XT1.out.cell
    have lbXT := XT1.out.lt
    have ceXA := XA1.out.cell
    have lbXA := XA1.out.lt
    have ceXH := XH1.out.cell
    have lbXH := XH1.out.lt
    have ceXC := XC1.out.cell
    have lbXC := XC1.out.lt
    go_wp2_with fail
    go_ret
    exact ⟨by rw [HE.out]; rfl, B1.out⟩
  have K3 := Lib.hid k3
  cases k4 : (h.h != a.h + 1)
  rotate_left
  · have HE := Lib.hid (ver4 (nl := nl) (p := p) (sg := sg) gg (by have := K2.out; omega) (by have := K3.out; omega) (show ¬ h.h = a.h + 1 by simpa using k4))
    have ceXT := XT1.out.cell
    have lbXT := XT1.out.lt
    have ceXA := XA1.out.cell
    have lbXA := XA1.out.lt
    have ceXH := XH1.out.cell
    have lbXH := XH1.out.lt
    have ceXC := XC1.out.cell
    have lbXC := XC1.out.lt
    go_wp2_with fail
    go_ret
    exact ⟨by rw [HE.out]; rfl, B1.out⟩
  have K4 := Lib.hid (show h.h = a.h + 1 by simpa using k4)
  by_cases k5 : h.t ≤ a.t
  · have HE := Lib.hid (ver5 (nl := nl) (p := p) (sg := sg) gg (by have := K2.out; omega) (by have := K3.out; omega) K4.out k5)
    have ceXT := XT1.out.cell
    have lbXT := XT1.out.lt
    have ceXA := XA1.out.cell
    have lbXA := XA1.out.lt
    have ceXH := XH1.out.cell
    have lbXH := XH1.out.lt
    have ceXC := XC1.out.cell
    have lbXC := XC1.out.lt
    go_wp2_with fail
    go_ret
    exact ⟨by rw [HE.out]; rfl, B1.out⟩
  have K5 := Lib.hid k5
  cases g6 : (h.last.toList == (headIdB a).toList)
  · have HE := Lib.hid (ver6 (nl := nl) (p := p) (sg := sg) gg (by have := K2.out; omega) (by have := K3.out; omega) K4.out (by have := K5.out; omega) g6)
    have ceXT := XT1.out.cell
    have lbXT := XT1.out.lt
    have ceXA := XA1.out.cell
    have lbXA := XA1.out.lt
    have ceXH := XH1.out.cell
    have lbXH := XH1.out.lt
    have ceXC := XC1.out.cell
    have lbXC := XC1.out.lt
    go_upto_region 9 with fail
    refine wp_region_below (by kernel_rfl) (by kernel_rfl) ?_
    repeat (first | go_big_quiet_skip | (go_big_quiet_want; go_big_quiet_op; first | go_big_quiet_on | (apply Exists.intro; refine ⟨fun w1 hC => ?_, ?_⟩; (focus (first | rfl | (go_at_call 11; exact quiet_below hC (sHeadId_any a _)) | (simp [(bcell hC).1, ceXA, lbXA, ceXH, lbXH]; done) | (simp [(bcell hC).1, ceXA, lbXA, ceXH, lbXH]; rfl))); go_big_quiet_on)))
    refine wpQuiet_nil ?_
    intro w2 hb2
    obtain ⟨hc2, hf2, hz2⟩ := bcell hb2
    go_wp2_with fail
    go_ret
    exact ⟨by rw [HE.out]; rfl, B1.out.trans (hb2.mono B1.out.size)⟩
  have ceXT := XT1.out.cell
  have lbXT := XT1.out.lt
  have ceXA := XA1.out.cell
  have lbXA := XA1.out.lt
  have ceXH := XH1.out.cell
  have lbXH := XH1.out.lt
  have ceXC := XC1.out.cell
  have lbXC := XC1.out.lt
  go_upto_region 9 with fail
  refine wp_region_below (by kernel_rfl) (by kernel_rfl) ?_
  repeat (first | go_big_quiet_skip | (go_big_quiet_want; go_big_quiet_op; first | go_big_quiet_on | (apply Exists.intro; refine ⟨fun w1 hC => ?_, ?_⟩; (focus (first | rfl | (go_at_call 11; exact quiet_below hC (sHeadId_any a _)) | (simp [(bcell hC).1, ceXA, lbXA, ceXH, lbXH]; done) | (simp [(bcell hC).1, ceXA, lbXA, ceXH, lbXH]; rfl))); go_big_quiet_on)))
  refine wpQuiet_nil ?_
  intro w2 hb2
  obtain ⟨hc2, hf2, hz2⟩ := bcell hb2
  clear hc2 hf2 hz2
  obtain ⟨v2, hwv⟩ : ∃ q, q = w2 := ⟨_, rfl⟩
  subst hwv
  have hb := hb2
  clear hb2
  clear ceXT lbXT ceXA lbXA ceXH lbXH ceXC lbXC
  have hs2 := hb.size
  have XT2 := Lib.hid (XT1.out.below hb XT1.out.lt)
  have XA2 := Lib.hid (XA1.out.below hb XA1.out.lt)
  have XH2 := Lib.hid (XH1.out.below hb XH1.out.lt)
  have XC2 := Lib.hid (XC1.out.below hb XC1.out.lt)
  have B2 := Lib.hid (B1.out.trans (hb.mono B1.out.size))
  have RA2 := Lib.hid ((RA1.out.below hb (Nat.le_refl _)).more hs2)
  have RN2 := Lib.hid ((RN1.out.below hb (Nat.le_refl _)).more hs2)
  have RS2 := Lib.hid ((RS1.out.below hb (Nat.le_refl _)).more hs2)
  clear hb XT1 XA1 XH1 XC1 B1 RA1 RN1 RS1
  cases g7 : (h.vals.toList == a.next.toList)
  · have HE := Lib.hid (ver7 (nl := nl) (p := p) (sg := sg) gg (by have := K2.out; omega) (by have := K3.out; omega) K4.out (by have := K5.out; omega) g6 g7)
    have ceXT := XT2.out.cell
    have lbXT := XT2.out.lt
    have ceXA := XA2.out.cell
    have lbXA := XA2.out.lt
    have ceXH := XH2.out.cell
    have lbXH := XH2.out.lt
    have ceXC := XC2.out.cell
    have lbXC := XC2.out.lt
    go_wp2_with fail
    go_ret
    exact ⟨by rw [HE.out]; rfl, B2.out⟩
  cases g0 : valsB nl
  · have g8 := next_bad (nl := nl) G3.out g0
    have HE := Lib.hid (ver8 (p := p) (sg := sg) gg (by have := K2.out; omega) (by have := K3.out; omega) K4.out (by have := K5.out; omega) g6 g7 g8)
    have ceXT := XT2.out.cell
    have lbXT := XT2.out.lt
    have ceXA := XA2.out.cell
    have lbXA := XA2.out.lt
    have ceXH := XH2.out.cell
    have lbXH := XH2.out.lt
    have ceXC := XC2.out.cell
    have lbXC := XC2.out.lt
    go_upto_region 13 with fail
    refine wp_region_below (by kernel_rfl) (by kernel_rfl) ?_
    repeat (first | go_big_quiet_skip | (go_big_quiet_want; go_big_quiet_op; first | go_big_quiet_on | (apply Exists.intro; refine ⟨fun w1 hC => ?_, ?_⟩; (focus (first | rfl | (go_at_call 46; exact quiet_below hC (by have hq := sValsOk_any B m d nl _ (by exact (RN2.out.below hC (Nat.le_refl _)).more hC.size); rw [g0] at hq; exact hq)) | (simp [(bcell hC).1, ceXT, lbXT, ceXA, lbXA, ceXH, lbXH, ceXC, lbXC]; done) | (simp [(bcell hC).1, ceXT, lbXT, ceXA, lbXA, ceXH, lbXH, ceXC, lbXC]; rfl))); go_big_quiet_on)))
    refine wpQuiet_nil ?_
    intro w2 hb2
    obtain ⟨hc2, hf2, hz2⟩ := bcell hb2
    go_wp2_with fail
    go_ret
    exact ⟨by rw [HE.out]; rfl, B2.out.trans (hb2.mono B2.out.size)⟩
  cases g8 : (h.next.toList == (valsHashB nl).toList)
  · have HE := Lib.hid (ver8 (p := p) (sg := sg) gg (by have := K2.out; omega) (by have := K3.out; omega) K4.out (by have := K5.out; omega) g6 g7 g8)
    have ceXT := XT2.out.cell
    have lbXT := XT2.out.lt
    have ceXA := XA2.out.cell
    have lbXA := XA2.out.lt
    have ceXH := XH2.out.cell
    have lbXH := XH2.out.lt
    have ceXC := XC2.out.cell
    have lbXC := XC2.out.lt
    go_upto_region 13 with fail
    refine wp_region_below (by kernel_rfl) (by kernel_rfl) ?_
    repeat (first | go_big_quiet_skip | (go_big_quiet_want; go_big_quiet_op; first | go_big_quiet_on | (apply Exists.intro; refine ⟨fun w1 hC => ?_, ?_⟩; (focus (first | rfl | (go_at_call 46; exact quiet_below hC (by have hq := sValsOk_any B m d nl _ (by exact (RN2.out.below hC (Nat.le_refl _)).more hC.size); rw [g0] at hq; exact hq)) | (go_at_call 47; exact quiet_below hC (sValsHash_any B m d nl _ (by exact (RN2.out.below hC (Nat.le_refl _)).more hC.size))) | (simp [(bcell hC).1, ceXH, lbXH]; done) | (simp [(bcell hC).1, ceXH, lbXH]; rfl))); go_big_quiet_on)))
    refine wpQuiet_nil ?_
    intro w2 hb2
    obtain ⟨hc2, hf2, hz2⟩ := bcell hb2
    go_wp2_with fail
    go_ret
    exact ⟨by rw [HE.out]; rfl, B2.out.trans (hb2.mono B2.out.size)⟩
  have ceXT := XT2.out.cell
  have lbXT := XT2.out.lt
  have ceXA := XA2.out.cell
  have lbXA := XA2.out.lt
  have ceXH := XH2.out.cell
  have lbXH := XH2.out.lt
  have ceXC := XC2.out.cell
  have lbXC := XC2.out.lt
  go_upto_region 13 with fail
  refine wp_region_below (by kernel_rfl) (by kernel_rfl) ?_
  repeat (first | go_big_quiet_skip | (go_big_quiet_want; go_big_quiet_op; first | go_big_quiet_on | (apply Exists.intro; refine ⟨fun w1 hC => ?_, ?_⟩; (focus (first | rfl | (go_at_call 46; exact quiet_below hC (by have hq := sValsOk_any B m d nl _ (by exact (RN2.out.below hC (Nat.le_refl _)).more hC.size); rw [g0] at hq; exact hq)) | (go_at_call 47; exact quiet_below hC (sValsHash_any B m d nl _ (by exact (RN2.out.below hC (Nat.le_refl _)).more hC.size))) | (simp [(bcell hC).1, ceXH, lbXH]; done) | (simp [(bcell hC).1, ceXH, lbXH]; rfl))); go_big_quiet_on)))
  refine wpQuiet_nil ?_
  intro w2 hb2
  obtain ⟨hc2, hf2, hz2⟩ := bcell hb2
  clear hc2 hf2 hz2
  obtain ⟨v3, hwv⟩ : ∃ q, q = w2 := ⟨_, rfl⟩
  subst hwv
  have hb := hb2
  clear hb2
  clear ceXT lbXT ceXA lbXA ceXH lbXH ceXC lbXC
  have hs3 := hb.size
  have XT3 := Lib.hid (XT2.out.below hb XT2.out.lt)
  have XA3 := Lib.hid (XA2.out.below hb XA2.out.lt)
  have XH3 := Lib.hid (XH2.out.below hb XH2.out.lt)
  have XC3 := Lib.hid (XC2.out.below hb XC2.out.lt)
  have B3 := Lib.hid (B2.out.trans (hb.mono B2.out.size))
  have RA3 := Lib.hid ((RA2.out.below hb (Nat.le_refl _)).more hs3)
  have RN3 := Lib.hid ((RN2.out.below hb (Nat.le_refl _)).more hs3)
  have RS3 := Lib.hid ((RS2.out.below hb (Nat.le_refl _)).more hs3)
  clear hb XT2 XA2 XH2 XC2 B2 RA2 RN2 RS2
  have HCO := Lib.hid (sCommitOk_any h p A n c al D nk cq sg _ RA3.out RS3.out)
  cases g9 : comB al h p sg
  · have HE := Lib.hid ((ver9 (p := p) (sg := sg) gg (by have := K2.out; omega) (by have := K3.out; omega) K4.out (by have := K5.out; omega) g6 g7 g8).trans (if_pos g9))
    rw [g9] at HCO
    clear g6 g7 g8 g9
    have ceXT := XT3.out.cell
    have lbXT := XT3.out.lt
    have ceXA := XA3.out.cell
    have lbXA := XA3.out.lt
    have ceXH := XH3.out.cell
    have lbXH := XH3.out.lt
    have ceXC := XC3.out.cell
    have lbXC := XC3.out.lt
    go_wp2_with fail
    refine HCO.out.mono ?_
    rintro e vz ⟨rfl, hb⟩
    go_wp2_with fail
    go_ret
    exact ⟨by rw [HE.out]; rfl, B3.out.trans (hb.mono B3.out.size)⟩
  · have HE := Lib.hid ((ver9 (p := p) (sg := sg) gg (by have := K2.out; omega) (by have := K3.out; omega) K4.out (by have := K5.out; omega) g6 g7 g8).trans (if_neg (by rw [g9]; decide)))
    rw [g9] at HCO
    clear g6 g7 g8 g9
    have ceXT := XT3.out.cell
    have lbXT := XT3.out.lt
    have ceXA := XA3.out.cell
    have lbXA := XA3.out.lt
    have ceXH := XH3.out.cell
    have lbXH := XH3.out.lt
    have ceXC := XC3.out.cell
    have lbXC := XC3.out.lt
    go_wp2_with fail
    refine HCO.out.mono ?_
    rintro e vz ⟨rfl, hb⟩
    go_wp2_with fail
    go_ret
    exact ⟨by rw [HE.out]; rfl, B3.out.trans (hb.mono B3.out.size)⟩
end Go.Proofs.YtelnnegfkdfpiaaGreatDoor
