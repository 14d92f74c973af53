/- Verify of both sides (written by wip/verall.py). -/
import Derived.Test.YtelnnegfkdfpiaaGreatDoorVerCopy
import Derived.WalkKit
import Derived.WalkSpells
import Derived.WalkLawsBesides
import Derived.Lib.Hide
namespace Go.Proofs.YtelnnegfkdfpiaaGreatDoor
open Go.RowKit

def verH (r : Int) (a h : HeaderD) : HeaderD := if r = 0 then h else a
def verV (r : Int) (al nl : List ValD) : List ValD := if r = 0 then nl else al
def VerOut (s : HeaderD) (l : List ValD) (r : Int) (w : World) (e : Ending) (w' : World) : Prop :=
  ∃ A c, e = .returned (.tuple #[.agg #[.int .i64 s.h, .int .i64 s.t, .string s.last, .string s.vals, .string s.next, .string s.data, .slice A l.length c], .int .i64 r]) ∧ OwnL valC 2 84 w' w.heap.size w'.heap.size A l.length c l ∧ Below w.heap.size w w'

set_option maxRecDepth 100000 in
set_option maxHeartbeats 8000000 in
theorem Verify_any (per sl : Int) (a h : HeaderD) (A : Option Addr) (n c : Nat) (al : List ValD) (B : Option Addr) (m d : Nat) (nl : List ValD) (p : ComD) (D : Option Addr) (nk cq : Nat) (sg : List CSigD) (now : Int) (w : World) (hA : RdL valC 2 w w.heap.size A n c al) (hN : RdL valC 2 w w.heap.size B m d nl) (hS : RdL csigC 2 w w.heap.size D nk cq sg) (hn : n ≤ 1048576) (hm : m ≤ 1048576) (ht : Tab w) :
    Calls Tryz.prog 7 #[.agg #[.int .i64 per, .int .i64 sl], .agg #[.int .i64 a.h, .int .i64 a.t, .string a.last, .string a.vals, .string a.next, .string a.data, .slice A n c], .agg #[.int .i64 h.h, .int .i64 h.t, .string h.last, .string h.vals, .string h.next, .string h.data], .slice B m d, .agg #[.int .i64 p.h, .int .i64 p.r, .string p.id, .slice D nk cq], .int .i64 now] w (VerOut (verH (verN per sl a al h nl p sg now) a h) (verV (verN per sl a al h nl p sg now) al nl) (verN per sl a al h nl p sg now) w) := by
  have HA := Lib.hid hA
  have HN := Lib.hid hN
  have HS := Lib.hid hS
  obtain rfl : al.length = n := hA.1
  obtain rfl : nl.length = m := hN.1
  clear hA hN hS
  have HT := Lib.hid ht
  have htp := ht.pos
  clear ht
  have HVC : ∀ wx : World, RdL valC 2 wx wx.heap.size A al.length c al → RdL valC 2 wx wx.heap.size B nl.length d nl → RdL csigC 2 wx wx.heap.size D nk cq sg → Tab wx → Hid (Calls Tryz.prog 38 #[.agg #[.int .i64 per, .int .i64 sl], .agg #[.int .i64 a.h, .int .i64 a.t, .string a.last, .string a.vals, .string a.next, .string a.data, .slice A al.length c], .agg #[.int .i64 h.h, .int .i64 h.t, .string h.last, .string h.vals, .string h.next, .string h.data], .slice B nl.length d, .agg #[.int .i64 p.h, .int .i64 p.r, .string p.id, .slice D nk cq], .int .i64 now] wx fun e w' => e = .returned (.int .i64 (verN per sl a al h nl p sg now)) ∧ Below wx.heap.size wx w') := fun wx h1 h2 h3 h4 => verified_any per sl a h A _ c al B _ d nl p D nk cq sg now wx h1 h2 h3 h4
  generalize verN per sl a al h nl p sg now = r at *
  obtain ⟨sx, hsx⟩ : ∃ x, x = verH r a h := ⟨_, rfl⟩
  obtain ⟨lx, hlx⟩ : ∃ x, x = verV r al nl := ⟨_, rfl⟩
  rw [← hsx, ← hlx]
  have HSX := Lib.hid hsx
  have HLX := Lib.hid hlx
  clear hsx hlx
  go_enter Tryz.func7, Tryz.ntmps7
  go_upto_region 1 with fail
  obtain ⟨v1, hwb⟩ : ∃ q, q = ((((w.alloc (.cells #[.int .i64 per, .int .i64 sl] 25)).alloc (.cells #[.int .i64 a.h, .int .i64 a.t, .string a.last, .string a.vals, .string a.next, .string a.data, .slice A al.length c] 30)).alloc (.cells #[.int .i64 h.h, .int .i64 h.t, .string h.last, .string h.vals, .string h.next, .string h.data] 27)).alloc (.cells #[.int .i64 p.h, .int .i64 p.r, .string p.id, .slice D nk cq] 33)).alloc (.cells #[.int .i64 0, .int .i64 0, .string ⟨#[]⟩, .string ⟨#[]⟩, .string ⟨#[]⟩, .string ⟨#[]⟩, .slice none 0 0] 30) := ⟨_, rfl⟩
  rw [← hwb]
  have hxT : Blk v1 w.heap.size 25 #[.int .i64 per, .int .i64 sl] := by rw [hwb]; have h := heap_alloc_new w (.cells #[.int .i64 per, .int .i64 sl] 25); (try simp only [World.size_alloc] at h); exact (Blk.alloc (Blk.alloc (Blk.alloc (Blk.alloc h _) _) _) _)
  have hxA : Blk v1 (w.heap.size + 1) 30 #[.int .i64 a.h, .int .i64 a.t, .string a.last, .string a.vals, .string a.next, .string a.data, .slice A al.length c] := by rw [hwb]; have h := heap_alloc_new (w.alloc (.cells #[.int .i64 per, .int .i64 sl] 25)) (.cells #[.int .i64 a.h, .int .i64 a.t, .string a.last, .string a.vals, .string a.next, .string a.data, .slice A al.length c] 30); (try simp only [World.size_alloc] at h); exact (Blk.alloc (Blk.alloc (Blk.alloc h _) _) _)
  have hxH : Blk v1 (w.heap.size + 1 + 1) 27 #[.int .i64 h.h, .int .i64 h.t, .string h.last, .string h.vals, .string h.next, .string h.data] := by rw [hwb]; have h := heap_alloc_new ((w.alloc (.cells #[.int .i64 per, .int .i64 sl] 25)).alloc (.cells #[.int .i64 a.h, .int .i64 a.t, .string a.last, .string a.vals, .string a.next, .string a.data, .slice A al.length c] 30)) (.cells #[.int .i64 h.h, .int .i64 h.t, .string h.last, .string h.vals, .string h.next, .string h.data] 27); (try simp only [World.size_alloc] at h); exact (Blk.alloc (Blk.alloc h _) _)
  have hxC : Blk v1 (w.heap.size + 1 + 1 + 1) 33 #[.int .i64 p.h, .int .i64 p.r, .string p.id, .slice D nk cq] := by rw [hwb]; have h := heap_alloc_new (((w.alloc (.cells #[.int .i64 per, .int .i64 sl] 25)).alloc (.cells #[.int .i64 a.h, .int .i64 a.t, .string a.last, .string a.vals, .string a.next, .string a.data, .slice A al.length c] 30)).alloc (.cells #[.int .i64 h.h, .int .i64 h.t, .string h.last, .string h.vals, .string h.next, .string h.data] 27)) (.cells #[.int .i64 p.h, .int .i64 p.r, .string p.id, .slice D nk cq] 33); (try simp only [World.size_alloc] at h); exact (Blk.alloc h _)
  have hxR : Blk v1 (w.heap.size + 1 + 1 + 1 + 1) 30 #[.int .i64 0, .int .i64 0, .string ⟨#[]⟩, .string ⟨#[]⟩, .string ⟨#[]⟩, .string ⟨#[]⟩, .slice none 0 0] := by rw [hwb]; have h := heap_alloc_new ((((w.alloc (.cells #[.int .i64 per, .int .i64 sl] 25)).alloc (.cells #[.int .i64 a.h, .int .i64 a.t, .string a.last, .string a.vals, .string a.next, .string a.data, .slice A al.length c] 30)).alloc (.cells #[.int .i64 h.h, .int .i64 h.t, .string h.last, .string h.vals, .string h.next, .string h.data] 27)).alloc (.cells #[.int .i64 p.h, .int .i64 p.r, .string p.id, .slice D nk cq] 33)) (.cells #[.int .i64 0, .int .i64 0, .string ⟨#[]⟩, .string ⟨#[]⟩, .string ⟨#[]⟩, .string ⟨#[]⟩, .slice none 0 0] 30); (try simp only [World.size_alloc] at h); exact h
  have hb0 : Below w.heap.size w v1 := by rw [hwb]; exact (Below.alloc (Below.alloc (Below.alloc (Below.alloc (Below.alloc (Below.refl _ _) (by first | exact Nat.le_refl _ | (simp; done) | (simp; omega)) _) (by first | exact Nat.le_refl _ | (simp; done) | (simp; omega)) _) (by first | exact Nat.le_refl _ | (simp; done) | (simp; omega)) _) (by first | exact Nat.le_refl _ | (simp; done) | (simp; omega)) _) (by first | exact Nat.le_refl _ | (simp; done) | (simp; omega)) _)
  clear hwb
  have hs1 := hb0.size
  have XT1 := Lib.hid hxT
  have ltT := hxT.lt
  clear hxT
  have XA1 := Lib.hid hxA
  have ltA := hxA.lt
  clear hxA
  have XH1 := Lib.hid hxH
  have ltH := hxH.lt
  clear hxH
  have XC1 := Lib.hid hxC
  have ltC := hxC.lt
  clear hxC
  have XR1 := Lib.hid hxR
  have ltR := hxR.lt
  clear hxR
  have B1 := Lib.hid hb0
  clear hb0
  have RA1 := Lib.hid ((HA.out.below B1.out (Nat.le_refl _)).more B1.out.size)
  have RN1 := Lib.hid ((HN.out.below B1.out (Nat.le_refl _)).more B1.out.size)
  have RS1 := Lib.hid ((HS.out.below B1.out (Nat.le_refl _)).more B1.out.size)
  clear HA HN HS
  have ceXT := XT1.out.cell
  have lbXT := XT1.out.lt
  have ceXA := XA1.out.cell
  have lbXA := XA1.out.lt
  have ceXH := XH1.out.cell
  have lbXH := XH1.out.lt
  have ceXC := XC1.out.cell
  have lbXC := XC1.out.lt
  have ceXR := XR1.out.cell
  have lbXR := XR1.out.lt
  go_wp2_with fail
  refine ((HVC _ RA1.out RN1.out RS1.out (HT.out.below B1.out htp)).out).mono ?_
  rintro e v2 ⟨rfl, hb⟩
  clear ceXT lbXT ceXA lbXA ceXH lbXH ceXC lbXC ceXR lbXR
  have hs2 := hb.size
  have XT2 := Lib.hid (XT1.out.below hb XT1.out.lt)
  have XA2 := Lib.hid (XA1.out.below hb XA1.out.lt)
  have XH2 := Lib.hid (XH1.out.below hb XH1.out.lt)
  have XC2 := Lib.hid (XC1.out.below hb XC1.out.lt)
  have XR2 := Lib.hid (XR1.out.below hb XR1.out.lt)
  have B2 := Lib.hid (B1.out.trans (hb.mono B1.out.size))
  have RA2 := Lib.hid ((RA1.out.below hb (Nat.le_refl _)).more hs2)
  have RN2 := Lib.hid ((RN1.out.below hb (Nat.le_refl _)).more hs2)
  have RS2 := Lib.hid ((RS1.out.below hb (Nat.le_refl _)).more hs2)
  clear hb XT1 XA1 XH1 XC1 XR1 B1 RA1 RN1 RS1
  by_cases r0 : r = 0
  · subst r0
    have e1 : h = sx := HSX.out.symm
    have e2 : nl = lx := HLX.out.symm
    subst e1
    subst e2
    go_upto_region 4 with fail
    have ceXT := XT2.out.cell
    have lbXT := XT2.out.lt
    have ceXA := XA2.out.cell
    have lbXA := XA2.out.lt
    have ceXH := XH2.out.cell
    have lbXH := XH2.out.lt
    have ceXC := XC2.out.cell
    have lbXC := XC2.out.lt
    have ceXR := XR2.out.cell
    have lbXR := XR2.out.lt
    have fzXR := XR2.out.frozen
    go_region_with (go_at_call 40; (refine (copyVals_any B nl.length d nl _ (by exact RN2.out) hm).mono ?_); rintro e wr ⟨A6, c6, rfl, ho, hb6⟩; have hb6 : Below v2.heap.size v2 wr := ((Below.refl v2.heap.size v2).drew).trans hb6; have HO : Hid (OwnL valC 2 84 wr v2.heap.size wr.heap.size A6 nl.length c6 nl) := Lib.hid ho; have HB6 := Lib.hid hb6; have yr : ∀ o, wr.cell? ⟨w.heap.size + 1 + 1, o, none⟩ = _ := fun o => (hb6.cell (p := ⟨w.heap.size + 1 + 1, o, none⟩) lbXH).trans (ceXH o); have zr : ∀ o, wr.cell? ⟨w.heap.size + 1 + 1 + 1 + 1, o, none⟩ = _ := fun o => (hb6.cell (p := ⟨w.heap.size + 1 + 1 + 1 + 1, o, none⟩) lbXR).trans (ceXR o); have fr : ∀ o, wr.frozen? ⟨w.heap.size + 1 + 1 + 1 + 1, o, none⟩ = _ := fun o => (hb6.frozen (p := ⟨w.heap.size + 1 + 1 + 1 + 1, o, none⟩) lbXR).trans (fzXR o); have hwr : w.heap.size + 1 + 1 + 1 + 1 < wr.heap.size := (by have := hb6.size; omega); have hw0 : w.heap.size + 5 ≤ wr.heap.size := (by omega); clear ho hb6)
    all_goals
      go_wp2_with fail
      refine bodyPost_ret (v := .tuple #[.agg #[.int .i64 h.h, .int .i64 h.t, .string h.last, .string h.vals, .string h.next, .string h.data, .slice A6 nl.length c6], .int .i64 0]) (by simp [results, Tryz.results7, go_sem, zr]) rfl ⟨A6, c6, rfl, ?_, ?_⟩
      · refine (OwnL.chg (lo' := w.heap.size) (hi' := w.heap.size + 5) HO.out ?_ (.inr (by omega))).wide (by omega) (by simp)
        (repeat (first | with_reducible refine Chg.setCell ?_ (by first | exact Nat.le_refl _ | (simp; done) | (simp; omega)) (by first | (simp; done) | (simp; omega)) _ | with_reducible refine Chg.alloc ?_ _ | with_reducible refine Chg.drew ?_)); (with_reducible exact Chg.refl _ _ _)
      · refine (B2.out.trans (HB6.out.mono B2.out.size)).trans ?_
        (repeat (first | with_reducible refine Below.setCell ?_ (by first | exact Nat.le_refl _ | (simp; done) | (simp; omega)) _ | with_reducible refine Below.alloc ?_ (by first | exact Nat.le_refl _ | (simp; done) | (simp; omega)) _ | with_reducible refine Below.drew ?_)); (with_reducible exact Below.refl _ _)
  have e1 : a = sx := (HSX.out.trans (if_neg r0)).symm
  have e2 : al = lx := (HLX.out.trans (if_neg r0)).symm
  subst e1
  subst e2
  have hne : (r != 0) = true := by simpa using r0
  have ceXT := XT2.out.cell
  have lbXT := XT2.out.lt
  have ceXA := XA2.out.cell
  have lbXA := XA2.out.lt
  have ceXH := XH2.out.cell
  have lbXH := XH2.out.lt
  have ceXC := XC2.out.cell
  have lbXC := XC2.out.lt
  have ceXR := XR2.out.cell
  have lbXR := XR2.out.lt
  have fzXR := XR2.out.frozen
  go_wp2_with fail
  refine (copyAnchor_any a A _ c al _ RA2.out hn).mono ?_
  rintro e v3 ⟨A6, n6, c6, rfl, ho, hb⟩
  obtain rfl : al.length = n6 := ho.1
  have HO := Lib.hid ho
  clear ho
  clear ceXT lbXT ceXA lbXA ceXH lbXH ceXC lbXC ceXR lbXR fzXR
  have hs3 := hb.size
  have XT3 := Lib.hid (XT2.out.below hb XT2.out.lt)
  have XA3 := Lib.hid (XA2.out.below hb XA2.out.lt)
  have XH3 := Lib.hid (XH2.out.below hb XH2.out.lt)
  have XC3 := Lib.hid (XC2.out.below hb XC2.out.lt)
  have XR3 := Lib.hid (XR2.out.below hb XR2.out.lt)
  have B3 := Lib.hid (B2.out.trans (hb.mono B2.out.size))
  have RA3 := Lib.hid ((RA2.out.below hb (Nat.le_refl _)).more hs3)
  have RN3 := Lib.hid ((RN2.out.below hb (Nat.le_refl _)).more hs3)
  have RS3 := Lib.hid ((RS2.out.below hb (Nat.le_refl _)).more hs3)
  clear hb XT2 XA2 XH2 XC2 XR2 B2 RA2 RN2 RS2
  have ceXR := XR3.out.cell
  have lbXR := XR3.out.lt
  have fzXR := XR3.out.frozen
  go_wp2_with fail
  refine bodyPost_ret (v := .tuple #[.agg #[.int .i64 a.h, .int .i64 a.t, .string a.last, .string a.vals, .string a.next, .string a.data, .slice A6 al.length c6], .int .i64 r]) (by simp [results, Tryz.results7, go_sem, ceXR]) rfl ⟨A6, c6, rfl, ?_, ?_⟩
  · refine (OwnL.chg (lo' := w.heap.size) (hi' := w.heap.size + 5) HO.out ?_ (.inr (by omega))).wide (by omega) (by simp)
    (repeat (first | with_reducible refine Chg.setCell ?_ (by first | exact Nat.le_refl _ | (simp; done) | (simp; omega)) (by first | (simp; done) | (simp; omega)) _ | with_reducible refine Chg.alloc ?_ _ | with_reducible refine Chg.drew ?_)); (with_reducible exact Chg.refl _ _ _)
  · refine (B3.out).trans ?_
    (repeat (first | with_reducible refine Below.setCell ?_ (by first | exact Nat.le_refl _ | (simp; done) | (simp; omega)) _ | with_reducible refine Below.alloc ?_ (by first | exact Nat.le_refl _ | (simp; done) | (simp; omega)) _ | with_reducible refine Below.drew ?_)); (with_reducible exact Below.refl _ _)
set_option maxRecDepth 100000 in
set_option maxHeartbeats 8000000 in
theorem sVerify_any (per sl : Int) (a h : HeaderD) (A : Option Addr) (n c : Nat) (al : List ValD) (B : Option Addr) (m d : Nat) (nl : List ValD) (p : ComD) (D : Option Addr) (nk cq : Nat) (sg : List CSigD) (now : Int) (w : World) (hA : RdL valC 2 w w.heap.size A n c al) (hN : RdL valC 2 w w.heap.size B m d nl) (hS : RdL csigC 2 w w.heap.size D nk cq sg) (hn : n ≤ 1048576) (hm : m ≤ 1048576) :
    Calls Tryz.prog 8 #[.agg #[.int .i64 per, .int .i64 sl], .agg #[.int .i64 a.h, .int .i64 a.t, .string a.last, .string a.vals, .string a.next, .string a.data, .slice A n c], .agg #[.int .i64 h.h, .int .i64 h.t, .string h.last, .string h.vals, .string h.next, .string h.data], .slice B m d, .agg #[.int .i64 p.h, .int .i64 p.r, .string p.id, .slice D nk cq], .int .i64 now] w (VerOut (verH (verN per sl a al h nl p sg now) a h) (verV (verN per sl a al h nl p sg now) al nl) (verN per sl a al h nl p sg now) w) := by
  have HA := Lib.hid hA
  have HN := Lib.hid hN
  have HS := Lib.hid hS
  obtain rfl : al.length = n := hA.1
  obtain rfl : nl.length = m := hN.1
  clear hA hN hS
  have HVC : ∀ wx : World, RdL valC 2 wx wx.heap.size A al.length c al → RdL valC 2 wx wx.heap.size B nl.length d nl → RdL csigC 2 wx wx.heap.size D nk cq sg → verG per sl a al h now = true → Hid (Calls Tryz.prog 45 #[.agg #[.int .i64 per, .int .i64 sl], .agg #[.int .i64 a.h, .int .i64 a.t, .string a.last, .string a.vals, .string a.next, .string a.data, .slice A al.length c], .agg #[.int .i64 h.h, .int .i64 h.t, .string h.last, .string h.vals, .string h.next, .string h.data], .slice B nl.length d, .agg #[.int .i64 p.h, .int .i64 p.r, .string p.id, .slice D nk cq], .int .i64 now] wx fun e w' => e = .returned (.int .i64 (verN per sl a al h nl p sg now)) ∧ Below wx.heap.size wx w') := fun wx h1 h2 h3 h4 => l11Why_any per sl a h A _ c al B _ d nl p D nk cq sg now wx h1 h2 h3 h4
  have HV1 : verG per sl a al h now = false → Hid (verN per sl a al h nl p sg now = 1) := fun g => Lib.hid (ver1 g)
  generalize verN per sl a al h nl p sg now = r at *
  obtain ⟨sx, hsx⟩ : ∃ x, x = verH r a h := ⟨_, rfl⟩
  obtain ⟨lx, hlx⟩ : ∃ x, x = verV r al nl := ⟨_, rfl⟩
  rw [← hsx, ← hlx]
  have HSX := Lib.hid hsx
  have HLX := Lib.hid hlx
  clear hsx hlx
  go_enter Tryz.func8, Tryz.ntmps8
  go_upto_region 1 with fail
  obtain ⟨v1, hwb⟩ : ∃ q, q = ((((w.alloc (.cells #[.int .i64 per, .int .i64 sl] 25)).alloc (.cells #[.int .i64 a.h, .int .i64 a.t, .string a.last, .string a.vals, .string a.next, .string a.data, .slice A al.length c] 30)).alloc (.cells #[.int .i64 h.h, .int .i64 h.t, .string h.last, .string h.vals, .string h.next, .string h.data] 27)).alloc (.cells #[.int .i64 p.h, .int .i64 p.r, .string p.id, .slice D nk cq] 33)).alloc (.cells #[.int .i64 0, .int .i64 0, .string ⟨#[]⟩, .string ⟨#[]⟩, .string ⟨#[]⟩, .string ⟨#[]⟩, .slice none 0 0] 30) := ⟨_, rfl⟩
  rw [← hwb]
  have hxT : Blk v1 w.heap.size 25 #[.int .i64 per, .int .i64 sl] := by rw [hwb]; have h := heap_alloc_new w (.cells #[.int .i64 per, .int .i64 sl] 25); (try simp only [World.size_alloc] at h); exact (Blk.alloc (Blk.alloc (Blk.alloc (Blk.alloc h _) _) _) _)
  have hxA : Blk v1 (w.heap.size + 1) 30 #[.int .i64 a.h, .int .i64 a.t, .string a.last, .string a.vals, .string a.next, .string a.data, .slice A al.length c] := by rw [hwb]; have h := heap_alloc_new (w.alloc (.cells #[.int .i64 per, .int .i64 sl] 25)) (.cells #[.int .i64 a.h, .int .i64 a.t, .string a.last, .string a.vals, .string a.next, .string a.data, .slice A al.length c] 30); (try simp only [World.size_alloc] at h); exact (Blk.alloc (Blk.alloc (Blk.alloc h _) _) _)
  have hxH : Blk v1 (w.heap.size + 1 + 1) 27 #[.int .i64 h.h, .int .i64 h.t, .string h.last, .string h.vals, .string h.next, .string h.data] := by rw [hwb]; have h := heap_alloc_new ((w.alloc (.cells #[.int .i64 per, .int .i64 sl] 25)).alloc (.cells #[.int .i64 a.h, .int .i64 a.t, .string a.last, .string a.vals, .string a.next, .string a.data, .slice A al.length c] 30)) (.cells #[.int .i64 h.h, .int .i64 h.t, .string h.last, .string h.vals, .string h.next, .string h.data] 27); (try simp only [World.size_alloc] at h); exact (Blk.alloc (Blk.alloc h _) _)
  have hxC : Blk v1 (w.heap.size + 1 + 1 + 1) 33 #[.int .i64 p.h, .int .i64 p.r, .string p.id, .slice D nk cq] := by rw [hwb]; have h := heap_alloc_new (((w.alloc (.cells #[.int .i64 per, .int .i64 sl] 25)).alloc (.cells #[.int .i64 a.h, .int .i64 a.t, .string a.last, .string a.vals, .string a.next, .string a.data, .slice A al.length c] 30)).alloc (.cells #[.int .i64 h.h, .int .i64 h.t, .string h.last, .string h.vals, .string h.next, .string h.data] 27)) (.cells #[.int .i64 p.h, .int .i64 p.r, .string p.id, .slice D nk cq] 33); (try simp only [World.size_alloc] at h); exact (Blk.alloc h _)
  have hxR : Blk v1 (w.heap.size + 1 + 1 + 1 + 1) 30 #[.int .i64 0, .int .i64 0, .string ⟨#[]⟩, .string ⟨#[]⟩, .string ⟨#[]⟩, .string ⟨#[]⟩, .slice none 0 0] := by rw [hwb]; have h := heap_alloc_new ((((w.alloc (.cells #[.int .i64 per, .int .i64 sl] 25)).alloc (.cells #[.int .i64 a.h, .int .i64 a.t, .string a.last, .string a.vals, .string a.next, .string a.data, .slice A al.length c] 30)).alloc (.cells #[.int .i64 h.h, .int .i64 h.t, .string h.last, .string h.vals, .string h.next, .string h.data] 27)).alloc (.cells #[.int .i64 p.h, .int .i64 p.r, .string p.id, .slice D nk cq] 33)) (.cells #[.int .i64 0, .int .i64 0, .string ⟨#[]⟩, .string ⟨#[]⟩, .string ⟨#[]⟩, .string ⟨#[]⟩, .slice none 0 0] 30); (try simp only [World.size_alloc] at h); exact h
  have hb0 : Below w.heap.size w v1 := by rw [hwb]; exact (Below.alloc (Below.alloc (Below.alloc (Below.alloc (Below.alloc (Below.refl _ _) (by first | exact Nat.le_refl _ | (simp; done) | (simp; omega)) _) (by first | exact Nat.le_refl _ | (simp; done) | (simp; omega)) _) (by first | exact Nat.le_refl _ | (simp; done) | (simp; omega)) _) (by first | exact Nat.le_refl _ | (simp; done) | (simp; omega)) _) (by first | exact Nat.le_refl _ | (simp; done) | (simp; omega)) _)
  clear hwb
  have hs1 := hb0.size
  have XT1 := Lib.hid hxT
  have ltT := hxT.lt
  clear hxT
  have XA1 := Lib.hid hxA
  have ltA := hxA.lt
  clear hxA
  have XH1 := Lib.hid hxH
  have ltH := hxH.lt
  clear hxH
  have XC1 := Lib.hid hxC
  have ltC := hxC.lt
  clear hxC
  have XR1 := Lib.hid hxR
  have ltR := hxR.lt
  clear hxR
  have B1 := Lib.hid hb0
  clear hb0
  have RA1 := Lib.hid ((HA.out.below B1.out (Nat.le_refl _)).more B1.out.size)
  have RN1 := Lib.hid ((HN.out.below B1.out (Nat.le_refl _)).more B1.out.size)
  have RS1 := Lib.hid ((HS.out.below B1.out (Nat.le_refl _)).more B1.out.size)
  clear HA HN HS
  cases gg : verG per sl a al h now
  · obtain rfl : r = 1 := (HV1 gg).out
    have e1 : a = sx := HSX.out.symm
    have e2 : al = lx := HLX.out.symm
    subst e1
    subst e2
    clear HV1 HVC
    cases g1 : trustB per sl
    · skip
      have ceXT := XT1.out.cell
      have lbXT := XT1.out.lt
      have ceXA := XA1.out.cell
      have lbXA := XA1.out.lt
      have ceXH := XH1.out.cell
      have lbXH := XH1.out.lt
      have ceXC := XC1.out.cell
      have lbXC := XC1.out.lt
      have ceXR := XR1.out.cell
      have lbXR := XR1.out.lt
      go_wp2_with fail
      refine (sTrustOk_any per sl _).mono ?_
      rw [g1]
      rintro e v2 ⟨rfl, hb⟩
      clear ceXT lbXT ceXA lbXA ceXH lbXH ceXC lbXC ceXR lbXR
      have hs2 := hb.size
      have XT2 := Lib.hid (XT1.out.below hb XT1.out.lt)
      have XA2 := Lib.hid (XA1.out.below hb XA1.out.lt)
      have XH2 := Lib.hid (XH1.out.below hb XH1.out.lt)
      have XC2 := Lib.hid (XC1.out.below hb XC1.out.lt)
      have XR2 := Lib.hid (XR1.out.below hb XR1.out.lt)
      have B2 := Lib.hid (B1.out.trans (hb.mono B1.out.size))
      have RA2 := Lib.hid ((RA1.out.below hb (Nat.le_refl _)).more hs2)
      have RN2 := Lib.hid ((RN1.out.below hb (Nat.le_refl _)).more hs2)
      have RS2 := Lib.hid ((RS1.out.below hb (Nat.le_refl _)).more hs2)
      clear hb XT1 XA1 XH1 XC1 XR1 B1 RA1 RN1 RS1
      have ceXT := XT2.out.cell
      have lbXT := XT2.out.lt
      have ceXA := XA2.out.cell
      have lbXA := XA2.out.lt
      have ceXH := XH2.out.cell
      have lbXH := XH2.out.lt
      have ceXC := XC2.out.cell
      have lbXC := XC2.out.lt
      have ceXR := XR2.out.cell
      have lbXR := XR2.out.lt
      have fzXR := XR2.out.frozen
      go_wp2_with fail
      refine (l11Copy_any a A _ c al _ RA2.out hn).mono ?_
      rintro e v3 ⟨A6, n6, c6, rfl, ho, hb⟩
      obtain rfl : al.length = n6 := ho.1
      have HO := Lib.hid ho
      clear ho
      clear ceXT lbXT ceXA lbXA ceXH lbXH ceXC lbXC ceXR lbXR fzXR
      have hs3 := hb.size
      have XT3 := Lib.hid (XT2.out.below hb XT2.out.lt)
      have XA3 := Lib.hid (XA2.out.below hb XA2.out.lt)
      have XH3 := Lib.hid (XH2.out.below hb XH2.out.lt)
      have XC3 := Lib.hid (XC2.out.below hb XC2.out.lt)
      have XR3 := Lib.hid (XR2.out.below hb XR2.out.lt)
      have B3 := Lib.hid (B2.out.trans (hb.mono B2.out.size))
      have RA3 := Lib.hid ((RA2.out.below hb (Nat.le_refl _)).more hs3)
      have RN3 := Lib.hid ((RN2.out.below hb (Nat.le_refl _)).more hs3)
      have RS3 := Lib.hid ((RS2.out.below hb (Nat.le_refl _)).more hs3)
      clear hb XT2 XA2 XH2 XC2 XR2 B2 RA2 RN2 RS2
      have ceXR := XR3.out.cell
      have lbXR := XR3.out.lt
      have fzXR := XR3.out.frozen
      go_wp2_with fail
      refine bodyPost_ret (v := .tuple #[.agg #[.int .i64 a.h, .int .i64 a.t, .string a.last, .string a.vals, .string a.next, .string a.data, .slice A6 al.length c6], .int .i64 1]) (by simp [results, Tryz.results8, go_sem, ceXR]) rfl ⟨A6, c6, rfl, ?_, ?_⟩
      · refine (OwnL.chg (lo' := w.heap.size) (hi' := w.heap.size + 5) HO.out ?_ (.inr (by omega))).wide (by omega) (by simp)
        (repeat (first | with_reducible refine Chg.setCell ?_ (by first | exact Nat.le_refl _ | (simp; done) | (simp; omega)) (by first | (simp; done) | (simp; omega)) _ | with_reducible refine Chg.alloc ?_ _ | with_reducible refine Chg.drew ?_)); (with_reducible exact Chg.refl _ _ _)
      · refine (B3.out).trans ?_
        (repeat (first | with_reducible refine Below.setCell ?_ (by first | exact Nat.le_refl _ | (simp; done) | (simp; omega)) _ | with_reducible refine Below.alloc ?_ (by first | exact Nat.le_refl _ | (simp; done) | (simp; omega)) _ | with_reducible refine Below.drew ?_)); (with_reducible exact Below.refl _ _)
    have ceXT := XT1.out.cell
    have lbXT := XT1.out.lt
    have ceXA := XA1.out.cell
    have lbXA := XA1.out.lt
    have ceXH := XH1.out.cell
    have lbXH := XH1.out.lt
    have ceXC := XC1.out.cell
    have lbXC := XC1.out.lt
    have ceXR := XR1.out.cell
    have lbXR := XR1.out.lt
    go_wp2_with fail
    refine (sTrustOk_any per sl _).mono ?_
    rw [g1]
    rintro e v2 ⟨rfl, hb⟩
    clear ceXT lbXT ceXA lbXA ceXH lbXH ceXC lbXC ceXR lbXR
    have hs2 := hb.size
    have XT2 := Lib.hid (XT1.out.below hb XT1.out.lt)
    have XA2 := Lib.hid (XA1.out.below hb XA1.out.lt)
    have XH2 := Lib.hid (XH1.out.below hb XH1.out.lt)
    have XC2 := Lib.hid (XC1.out.below hb XC1.out.lt)
    have XR2 := Lib.hid (XR1.out.below hb XR1.out.lt)
    have B2 := Lib.hid (B1.out.trans (hb.mono B1.out.size))
    have RA2 := Lib.hid ((RA1.out.below hb (Nat.le_refl _)).more hs2)
    have RN2 := Lib.hid ((RN1.out.below hb (Nat.le_refl _)).more hs2)
    have RS2 := Lib.hid ((RS1.out.below hb (Nat.le_refl _)).more hs2)
    clear hb XT1 XA1 XH1 XC1 XR1 B1 RA1 RN1 RS1
    cases g2 : anchorB a al
    · skip
      have ceXT := XT2.out.cell
      have lbXT := XT2.out.lt
      have ceXA := XA2.out.cell
      have lbXA := XA2.out.lt
      have ceXH := XH2.out.cell
      have lbXH := XH2.out.lt
      have ceXC := XC2.out.cell
      have lbXC := XC2.out.lt
      have ceXR := XR2.out.cell
      have lbXR := XR2.out.lt
      go_wp2_with fail
      refine (sAnchorOk_any a A _ c al _ RA2.out).mono ?_
      rw [g2]
      rintro e v3 ⟨rfl, hb⟩
      clear ceXT lbXT ceXA lbXA ceXH lbXH ceXC lbXC ceXR lbXR
      have hs3 := hb.size
      have XT3 := Lib.hid (XT2.out.below hb XT2.out.lt)
      have XA3 := Lib.hid (XA2.out.below hb XA2.out.lt)
      have XH3 := Lib.hid (XH2.out.below hb XH2.out.lt)
      have XC3 := Lib.hid (XC2.out.below hb XC2.out.lt)
      have XR3 := Lib.hid (XR2.out.below hb XR2.out.lt)
      have B3 := Lib.hid (B2.out.trans (hb.mono B2.out.size))
      have RA3 := Lib.hid ((RA2.out.below hb (Nat.le_refl _)).more hs3)
      have RN3 := Lib.hid ((RN2.out.below hb (Nat.le_refl _)).more hs3)
      have RS3 := Lib.hid ((RS2.out.below hb (Nat.le_refl _)).more hs3)
      clear hb XT2 XA2 XH2 XC2 XR2 B2 RA2 RN2 RS2
      have ceXT := XT3.out.cell
      have lbXT := XT3.out.lt
      have ceXA := XA3.out.cell
      have lbXA := XA3.out.lt
      have ceXH := XH3.out.cell
      have lbXH := XH3.out.lt
      have ceXC := XC3.out.cell
      have lbXC := XC3.out.lt
      have ceXR := XR3.out.cell
      have lbXR := XR3.out.lt
      have fzXR := XR3.out.frozen
      go_wp2_with fail
      refine (l11Copy_any a A _ c al _ RA3.out hn).mono ?_
      rintro e v4 ⟨A6, n6, c6, rfl, ho, hb⟩
      obtain rfl : al.length = n6 := ho.1
      have HO := Lib.hid ho
      clear ho
      clear ceXT lbXT ceXA lbXA ceXH lbXH ceXC lbXC ceXR lbXR fzXR
      have hs4 := hb.size
      have XT4 := Lib.hid (XT3.out.below hb XT3.out.lt)
      have XA4 := Lib.hid (XA3.out.below hb XA3.out.lt)
      have XH4 := Lib.hid (XH3.out.below hb XH3.out.lt)
      have XC4 := Lib.hid (XC3.out.below hb XC3.out.lt)
      have XR4 := Lib.hid (XR3.out.below hb XR3.out.lt)
      have B4 := Lib.hid (B3.out.trans (hb.mono B3.out.size))
      have RA4 := Lib.hid ((RA3.out.below hb (Nat.le_refl _)).more hs4)
      have RN4 := Lib.hid ((RN3.out.below hb (Nat.le_refl _)).more hs4)
      have RS4 := Lib.hid ((RS3.out.below hb (Nat.le_refl _)).more hs4)
      clear hb XT3 XA3 XH3 XC3 XR3 B3 RA3 RN3 RS3
      have ceXR := XR4.out.cell
      have lbXR := XR4.out.lt
      have fzXR := XR4.out.frozen
      go_wp2_with fail
      refine bodyPost_ret (v := .tuple #[.agg #[.int .i64 a.h, .int .i64 a.t, .string a.last, .string a.vals, .string a.next, .string a.data, .slice A6 al.length c6], .int .i64 1]) (by simp [results, Tryz.results8, go_sem, ceXR]) rfl ⟨A6, c6, rfl, ?_, ?_⟩
      · refine (OwnL.chg (lo' := w.heap.size) (hi' := w.heap.size + 5) HO.out ?_ (.inr (by omega))).wide (by omega) (by simp)
        (repeat (first | with_reducible refine Chg.setCell ?_ (by first | exact Nat.le_refl _ | (simp; done) | (simp; omega)) (by first | (simp; done) | (simp; omega)) _ | with_reducible refine Chg.alloc ?_ _ | with_reducible refine Chg.drew ?_)); (with_reducible exact Chg.refl _ _ _)
      · refine (B4.out).trans ?_
        (repeat (first | with_reducible refine Below.setCell ?_ (by first | exact Nat.le_refl _ | (simp; done) | (simp; omega)) _ | with_reducible refine Below.alloc ?_ (by first | exact Nat.le_refl _ | (simp; done) | (simp; omega)) _ | with_reducible refine Below.drew ?_)); (with_reducible exact Below.refl _ _)
    have ceXT := XT2.out.cell
    have lbXT := XT2.out.lt
    have ceXA := XA2.out.cell
    have lbXA := XA2.out.lt
    have ceXH := XH2.out.cell
    have lbXH := XH2.out.lt
    have ceXC := XC2.out.cell
    have lbXC := XC2.out.lt
    have ceXR := XR2.out.cell
    have lbXR := XR2.out.lt
    go_wp2_with fail
    refine (sAnchorOk_any a A _ c al _ RA2.out).mono ?_
    rw [g2]
    rintro e v3 ⟨rfl, hb⟩
    clear ceXT lbXT ceXA lbXA ceXH lbXH ceXC lbXC ceXR lbXR
    have hs3 := hb.size
    have XT3 := Lib.hid (XT2.out.below hb XT2.out.lt)
    have XA3 := Lib.hid (XA2.out.below hb XA2.out.lt)
    have XH3 := Lib.hid (XH2.out.below hb XH2.out.lt)
    have XC3 := Lib.hid (XC2.out.below hb XC2.out.lt)
    have XR3 := Lib.hid (XR2.out.below hb XR2.out.lt)
    have B3 := Lib.hid (B2.out.trans (hb.mono B2.out.size))
    have RA3 := Lib.hid ((RA2.out.below hb (Nat.le_refl _)).more hs3)
    have RN3 := Lib.hid ((RN2.out.below hb (Nat.le_refl _)).more hs3)
    have RS3 := Lib.hid ((RS2.out.below hb (Nat.le_refl _)).more hs3)
    clear hb XT2 XA2 XH2 XC2 XR2 B2 RA2 RN2 RS2
    cases g3 : hdrB h
    · skip
      have ceXT := XT3.out.cell
      have lbXT := XT3.out.lt
      have ceXA := XA3.out.cell
      have lbXA := XA3.out.lt
      have ceXH := XH3.out.cell
      have lbXH := XH3.out.lt
      have ceXC := XC3.out.cell
      have lbXC := XC3.out.lt
      have ceXR := XR3.out.cell
      have lbXR := XR3.out.lt
      go_wp2_with fail
      refine (sHeaderOk_any h _).mono ?_
      rw [g3]
      rintro e v4 ⟨rfl, hb⟩
      clear ceXT lbXT ceXA lbXA ceXH lbXH ceXC lbXC ceXR lbXR
      have hs4 := hb.size
      have XT4 := Lib.hid (XT3.out.below hb XT3.out.lt)
      have XA4 := Lib.hid (XA3.out.below hb XA3.out.lt)
      have XH4 := Lib.hid (XH3.out.below hb XH3.out.lt)
      have XC4 := Lib.hid (XC3.out.below hb XC3.out.lt)
      have XR4 := Lib.hid (XR3.out.below hb XR3.out.lt)
      have B4 := Lib.hid (B3.out.trans (hb.mono B3.out.size))
      have RA4 := Lib.hid ((RA3.out.below hb (Nat.le_refl _)).more hs4)
      have RN4 := Lib.hid ((RN3.out.below hb (Nat.le_refl _)).more hs4)
      have RS4 := Lib.hid ((RS3.out.below hb (Nat.le_refl _)).more hs4)
      clear hb XT3 XA3 XH3 XC3 XR3 B3 RA3 RN3 RS3
      have ceXT := XT4.out.cell
      have lbXT := XT4.out.lt
      have ceXA := XA4.out.cell
      have lbXA := XA4.out.lt
      have ceXH := XH4.out.cell
      have lbXH := XH4.out.lt
      have ceXC := XC4.out.cell
      have lbXC := XC4.out.lt
      have ceXR := XR4.out.cell
      have lbXR := XR4.out.lt
      have fzXR := XR4.out.frozen
      go_wp2_with fail
      refine (l11Copy_any a A _ c al _ RA4.out hn).mono ?_
      rintro e v5 ⟨A6, n6, c6, rfl, ho, hb⟩
      obtain rfl : al.length = n6 := ho.1
      have HO := Lib.hid ho
      clear ho
      clear ceXT lbXT ceXA lbXA ceXH lbXH ceXC lbXC ceXR lbXR fzXR
      have hs5 := hb.size
      have XT5 := Lib.hid (XT4.out.below hb XT4.out.lt)
      have XA5 := Lib.hid (XA4.out.below hb XA4.out.lt)
      have XH5 := Lib.hid (XH4.out.below hb XH4.out.lt)
      have XC5 := Lib.hid (XC4.out.below hb XC4.out.lt)
      have XR5 := Lib.hid (XR4.out.below hb XR4.out.lt)
      have B5 := Lib.hid (B4.out.trans (hb.mono B4.out.size))
      have RA5 := Lib.hid ((RA4.out.below hb (Nat.le_refl _)).more hs5)
      have RN5 := Lib.hid ((RN4.out.below hb (Nat.le_refl _)).more hs5)
      have RS5 := Lib.hid ((RS4.out.below hb (Nat.le_refl _)).more hs5)
      clear hb XT4 XA4 XH4 XC4 XR4 B4 RA4 RN4 RS4
      have ceXR := XR5.out.cell
      have lbXR := XR5.out.lt
      have fzXR := XR5.out.frozen
      go_wp2_with fail
      refine bodyPost_ret (v := .tuple #[.agg #[.int .i64 a.h, .int .i64 a.t, .string a.last, .string a.vals, .string a.next, .string a.data, .slice A6 al.length c6], .int .i64 1]) (by simp [results, Tryz.results8, go_sem, ceXR]) rfl ⟨A6, c6, rfl, ?_, ?_⟩
      · refine (OwnL.chg (lo' := w.heap.size) (hi' := w.heap.size + 5) HO.out ?_ (.inr (by omega))).wide (by omega) (by simp)
        (repeat (first | with_reducible refine Chg.setCell ?_ (by first | exact Nat.le_refl _ | (simp; done) | (simp; omega)) (by first | (simp; done) | (simp; omega)) _ | with_reducible refine Chg.alloc ?_ _ | with_reducible refine Chg.drew ?_)); (with_reducible exact Chg.refl _ _ _)
      · refine (B5.out).trans ?_
        (repeat (first | with_reducible refine Below.setCell ?_ (by first | exact Nat.le_refl _ | (simp; done) | (simp; omega)) _ | with_reducible refine Below.alloc ?_ (by first | exact Nat.le_refl _ | (simp; done) | (simp; omega)) _ | with_reducible refine Below.drew ?_)); (with_reducible exact Below.refl _ _)
    have ceXT := XT3.out.cell
    have lbXT := XT3.out.lt
    have ceXA := XA3.out.cell
    have lbXA := XA3.out.lt
    have ceXH := XH3.out.cell
    have lbXH := XH3.out.lt
    have ceXC := XC3.out.cell
    have lbXC := XC3.out.lt
    have ceXR := XR3.out.cell
    have lbXR := XR3.out.lt
    go_wp2_with fail
    refine (sHeaderOk_any h _).mono ?_
    rw [g3]
    rintro e v4 ⟨rfl, hb⟩
    clear ceXT lbXT ceXA lbXA ceXH lbXH ceXC lbXC ceXR lbXR
    have hs4 := hb.size
    have XT4 := Lib.hid (XT3.out.below hb XT3.out.lt)
    have XA4 := Lib.hid (XA3.out.below hb XA3.out.lt)
    have XH4 := Lib.hid (XH3.out.below hb XH3.out.lt)
    have XC4 := Lib.hid (XC3.out.below hb XC3.out.lt)
    have XR4 := Lib.hid (XR3.out.below hb XR3.out.lt)
    have B4 := Lib.hid (B3.out.trans (hb.mono B3.out.size))
    have RA4 := Lib.hid ((RA3.out.below hb (Nat.le_refl _)).more hs4)
    have RN4 := Lib.hid ((RN3.out.below hb (Nat.le_refl _)).more hs4)
    have RS4 := Lib.hid ((RS3.out.below hb (Nat.le_refl _)).more hs4)
    clear hb XT3 XA3 XH3 XC3 XR3 B3 RA3 RN3 RS3
    cases g4 : inB now 0 1000000
    · skip
      have ceXT := XT4.out.cell
      have lbXT := XT4.out.lt
      have ceXA := XA4.out.cell
      have lbXA := XA4.out.lt
      have ceXH := XH4.out.cell
      have lbXH := XH4.out.lt
      have ceXC := XC4.out.cell
      have lbXC := XC4.out.lt
      have ceXR := XR4.out.cell
      have lbXR := XR4.out.lt
      go_wp2_with fail
      refine (l10Time_any now _).mono ?_
      rw [g4]
      rintro e vx ⟨rfl, rfl⟩
      clear ceXT lbXT ceXA lbXA ceXH lbXH ceXC lbXC ceXR lbXR
      have ceXT := XT4.out.cell
      have lbXT := XT4.out.lt
      have ceXA := XA4.out.cell
      have lbXA := XA4.out.lt
      have ceXH := XH4.out.cell
      have lbXH := XH4.out.lt
      have ceXC := XC4.out.cell
      have lbXC := XC4.out.lt
      have ceXR := XR4.out.cell
      have lbXR := XR4.out.lt
      have fzXR := XR4.out.frozen
      go_wp2_with fail
      refine (l11Copy_any a A _ c al _ RA4.out hn).mono ?_
      rintro e v5 ⟨A6, n6, c6, rfl, ho, hb⟩
      obtain rfl : al.length = n6 := ho.1
      have HO := Lib.hid ho
      clear ho
      clear ceXT lbXT ceXA lbXA ceXH lbXH ceXC lbXC ceXR lbXR fzXR
      have hs5 := hb.size
      have XT5 := Lib.hid (XT4.out.below hb XT4.out.lt)
      have XA5 := Lib.hid (XA4.out.below hb XA4.out.lt)
      have XH5 := Lib.hid (XH4.out.below hb XH4.out.lt)
      have XC5 := Lib.hid (XC4.out.below hb XC4.out.lt)
      have XR5 := Lib.hid (XR4.out.below hb XR4.out.lt)
      have B5 := Lib.hid (B4.out.trans (hb.mono B4.out.size))
      have RA5 := Lib.hid ((RA4.out.below hb (Nat.le_refl _)).more hs5)
      have RN5 := Lib.hid ((RN4.out.below hb (Nat.le_refl _)).more hs5)
      have RS5 := Lib.hid ((RS4.out.below hb (Nat.le_refl _)).more hs5)
      clear hb XT4 XA4 XH4 XC4 XR4 B4 RA4 RN4 RS4
      have ceXR := XR5.out.cell
      have lbXR := XR5.out.lt
      have fzXR := XR5.out.frozen
      go_wp2_with fail
      refine bodyPost_ret (v := .tuple #[.agg #[.int .i64 a.h, .int .i64 a.t, .string a.last, .string a.vals, .string a.next, .string a.data, .slice A6 al.length c6], .int .i64 1]) (by simp [results, Tryz.results8, go_sem, ceXR]) rfl ⟨A6, c6, rfl, ?_, ?_⟩
      · refine (OwnL.chg (lo' := w.heap.size) (hi' := w.heap.size + 5) HO.out ?_ (.inr (by omega))).wide (by omega) (by simp)
        (repeat (first | with_reducible refine Chg.setCell ?_ (by first | exact Nat.le_refl _ | (simp; done) | (simp; omega)) (by first | (simp; done) | (simp; omega)) _ | with_reducible refine Chg.alloc ?_ _ | with_reducible refine Chg.drew ?_)); (with_reducible exact Chg.refl _ _ _)
      · refine (B5.out).trans ?_
        (repeat (first | with_reducible refine Below.setCell ?_ (by first | exact Nat.le_refl _ | (simp; done) | (simp; omega)) _ | with_reducible refine Below.alloc ?_ (by first | exact Nat.le_refl _ | (simp; done) | (simp; omega)) _ | with_reducible refine Below.drew ?_)); (with_reducible exact Below.refl _ _)
    exact absurd gg (by unfold verG; rw [g1, g2, g3, g4]; decide)
  have gq := gg
  unfold verG at gq
  rw [Bool.and_eq_true, Bool.and_eq_true, Bool.and_eq_true] at gq
  obtain ⟨g1, g2, g3, g4⟩ := gq
  have ceXT := XT1.out.cell
  have lbXT := XT1.out.lt
  have ceXA := XA1.out.cell
  have lbXA := XA1.out.lt
  have ceXH := XH1.out.cell
  have lbXH := XH1.out.lt
  have ceXC := XC1.out.cell
  have lbXC := XC1.out.lt
  have ceXR := XR1.out.cell
  have lbXR := XR1.out.lt
  go_wp2_with fail
  refine (sTrustOk_any per sl _).mono ?_
  rw [g1]
  rintro e v2 ⟨rfl, hb⟩
  clear ceXT lbXT ceXA lbXA ceXH lbXH ceXC lbXC ceXR lbXR
  have hs2 := hb.size
  have XT2 := Lib.hid (XT1.out.below hb XT1.out.lt)
  have XA2 := Lib.hid (XA1.out.below hb XA1.out.lt)
  have XH2 := Lib.hid (XH1.out.below hb XH1.out.lt)
  have XC2 := Lib.hid (XC1.out.below hb XC1.out.lt)
  have XR2 := Lib.hid (XR1.out.below hb XR1.out.lt)
  have B2 := Lib.hid (B1.out.trans (hb.mono B1.out.size))
  have RA2 := Lib.hid ((RA1.out.below hb (Nat.le_refl _)).more hs2)
  have RN2 := Lib.hid ((RN1.out.below hb (Nat.le_refl _)).more hs2)
  have RS2 := Lib.hid ((RS1.out.below hb (Nat.le_refl _)).more hs2)
  clear hb XT1 XA1 XH1 XC1 XR1 B1 RA1 RN1 RS1
  have ceXT := XT2.out.cell
  have lbXT := XT2.out.lt
  have ceXA := XA2.out.cell
  have lbXA := XA2.out.lt
  have ceXH := XH2.out.cell
  have lbXH := XH2.out.lt
  have ceXC := XC2.out.cell
  have lbXC := XC2.out.lt
  have ceXR := XR2.out.cell
  have lbXR := XR2.out.lt
  go_wp2_with fail
  refine (sAnchorOk_any a A _ c al _ RA2.out).mono ?_
  rw [g2]
  rintro e v3 ⟨rfl, hb⟩
  clear ceXT lbXT ceXA lbXA ceXH lbXH ceXC lbXC ceXR lbXR
  have hs3 := hb.size
  have XT3 := Lib.hid (XT2.out.below hb XT2.out.lt)
  have XA3 := Lib.hid (XA2.out.below hb XA2.out.lt)
  have XH3 := Lib.hid (XH2.out.below hb XH2.out.lt)
  have XC3 := Lib.hid (XC2.out.below hb XC2.out.lt)
  have XR3 := Lib.hid (XR2.out.below hb XR2.out.lt)
  have B3 := Lib.hid (B2.out.trans (hb.mono B2.out.size))
  have RA3 := Lib.hid ((RA2.out.below hb (Nat.le_refl _)).more hs3)
  have RN3 := Lib.hid ((RN2.out.below hb (Nat.le_refl _)).more hs3)
  have RS3 := Lib.hid ((RS2.out.below hb (Nat.le_refl _)).more hs3)
  clear hb XT2 XA2 XH2 XC2 XR2 B2 RA2 RN2 RS2
  have ceXT := XT3.out.cell
  have lbXT := XT3.out.lt
  have ceXA := XA3.out.cell
  have lbXA := XA3.out.lt
  have ceXH := XH3.out.cell
  have lbXH := XH3.out.lt
  have ceXC := XC3.out.cell
  have lbXC := XC3.out.lt
  have ceXR := XR3.out.cell
  have lbXR := XR3.out.lt
  go_wp2_with fail
  refine (sHeaderOk_any h _).mono ?_
  rw [g3]
  rintro e v4 ⟨rfl, hb⟩
  clear ceXT lbXT ceXA lbXA ceXH lbXH ceXC lbXC ceXR lbXR
  have hs4 := hb.size
  have XT4 := Lib.hid (XT3.out.below hb XT3.out.lt)
  have XA4 := Lib.hid (XA3.out.below hb XA3.out.lt)
  have XH4 := Lib.hid (XH3.out.below hb XH3.out.lt)
  have XC4 := Lib.hid (XC3.out.below hb XC3.out.lt)
  have XR4 := Lib.hid (XR3.out.below hb XR3.out.lt)
  have B4 := Lib.hid (B3.out.trans (hb.mono B3.out.size))
  have RA4 := Lib.hid ((RA3.out.below hb (Nat.le_refl _)).more hs4)
  have RN4 := Lib.hid ((RN3.out.below hb (Nat.le_refl _)).more hs4)
  have RS4 := Lib.hid ((RS3.out.below hb (Nat.le_refl _)).more hs4)
  clear hb XT3 XA3 XH3 XC3 XR3 B3 RA3 RN3 RS3
  have ceXT := XT4.out.cell
  have lbXT := XT4.out.lt
  have ceXA := XA4.out.cell
  have lbXA := XA4.out.lt
  have ceXH := XH4.out.cell
  have lbXH := XH4.out.lt
  have ceXC := XC4.out.cell
  have lbXC := XC4.out.lt
  have ceXR := XR4.out.cell
  have lbXR := XR4.out.lt
  go_wp2_with fail
  refine (l10Time_any now _).mono ?_
  rw [g4]
  rintro e vx ⟨rfl, rfl⟩
  clear ceXT lbXT ceXA lbXA ceXH lbXH ceXC lbXC ceXR lbXR
  have ceXT := XT4.out.cell
  have lbXT := XT4.out.lt
  have ceXA := XA4.out.cell
  have lbXA := XA4.out.lt
  have ceXH := XH4.out.cell
  have lbXH := XH4.out.lt
  have ceXC := XC4.out.cell
  have lbXC := XC4.out.lt
  have ceXR := XR4.out.cell
  have lbXR := XR4.out.lt
  go_wp2_with fail
  refine ((HVC _ RA4.out RN4.out RS4.out gg).out).mono ?_
  rintro e v5 ⟨rfl, hb⟩
  clear ceXT lbXT ceXA lbXA ceXH lbXH ceXC lbXC ceXR lbXR
  have hs5 := hb.size
  have XT5 := Lib.hid (XT4.out.below hb XT4.out.lt)
  have XA5 := Lib.hid (XA4.out.below hb XA4.out.lt)
  have XH5 := Lib.hid (XH4.out.below hb XH4.out.lt)
  have XC5 := Lib.hid (XC4.out.below hb XC4.out.lt)
  have XR5 := Lib.hid (XR4.out.below hb XR4.out.lt)
  have B5 := Lib.hid (B4.out.trans (hb.mono B4.out.size))
  have RA5 := Lib.hid ((RA4.out.below hb (Nat.le_refl _)).more hs5)
  have RN5 := Lib.hid ((RN4.out.below hb (Nat.le_refl _)).more hs5)
  have RS5 := Lib.hid ((RS4.out.below hb (Nat.le_refl _)).more hs5)
  clear hb XT4 XA4 XH4 XC4 XR4 B4 RA4 RN4 RS4
  by_cases r0 : r = 0
  · subst r0
    have e1 : h = sx := HSX.out.symm
    have e2 : nl = lx := HLX.out.symm
    subst e1
    subst e2
    have ceXT := XT5.out.cell
    have lbXT := XT5.out.lt
    have ceXA := XA5.out.cell
    have lbXA := XA5.out.lt
    have ceXH := XH5.out.cell
    have lbXH := XH5.out.lt
    have ceXC := XC5.out.cell
    have lbXC := XC5.out.lt
    have ceXR := XR5.out.cell
    have lbXR := XR5.out.lt
    have fzXR := XR5.out.frozen
    go_wp2_with fail
    refine (l11Copy_any h B _ d nl _ RN5.out hm).mono ?_
    rintro e v6 ⟨A6, n6, c6, rfl, ho, hb⟩
    obtain rfl : nl.length = n6 := ho.1
    have HO := Lib.hid ho
    clear ho
    clear ceXT lbXT ceXA lbXA ceXH lbXH ceXC lbXC ceXR lbXR fzXR
    have hs6 := hb.size
    have XT6 := Lib.hid (XT5.out.below hb XT5.out.lt)
    have XA6 := Lib.hid (XA5.out.below hb XA5.out.lt)
    have XH6 := Lib.hid (XH5.out.below hb XH5.out.lt)
    have XC6 := Lib.hid (XC5.out.below hb XC5.out.lt)
    have XR6 := Lib.hid (XR5.out.below hb XR5.out.lt)
    have B6 := Lib.hid (B5.out.trans (hb.mono B5.out.size))
    have RA6 := Lib.hid ((RA5.out.below hb (Nat.le_refl _)).more hs6)
    have RN6 := Lib.hid ((RN5.out.below hb (Nat.le_refl _)).more hs6)
    have RS6 := Lib.hid ((RS5.out.below hb (Nat.le_refl _)).more hs6)
    clear hb XT5 XA5 XH5 XC5 XR5 B5 RA5 RN5 RS5
    have ceXR := XR6.out.cell
    have lbXR := XR6.out.lt
    have fzXR := XR6.out.frozen
    go_wp2_with fail
    refine bodyPost_ret (v := .tuple #[.agg #[.int .i64 h.h, .int .i64 h.t, .string h.last, .string h.vals, .string h.next, .string h.data, .slice A6 nl.length c6], .int .i64 0]) (by simp [results, Tryz.results8, go_sem, ceXR]) rfl ⟨A6, c6, rfl, ?_, ?_⟩
    · refine (OwnL.chg (lo' := w.heap.size) (hi' := w.heap.size + 5) HO.out ?_ (.inr (by omega))).wide (by omega) (by simp)
      (repeat (first | with_reducible refine Chg.setCell ?_ (by first | exact Nat.le_refl _ | (simp; done) | (simp; omega)) (by first | (simp; done) | (simp; omega)) _ | with_reducible refine Chg.alloc ?_ _ | with_reducible refine Chg.drew ?_)); (with_reducible exact Chg.refl _ _ _)
    · refine (B6.out).trans ?_
      (repeat (first | with_reducible refine Below.setCell ?_ (by first | exact Nat.le_refl _ | (simp; done) | (simp; omega)) _ | with_reducible refine Below.alloc ?_ (by first | exact Nat.le_refl _ | (simp; done) | (simp; omega)) _ | with_reducible refine Below.drew ?_)); (with_reducible exact Below.refl _ _)
  have e1 : a = sx := (HSX.out.trans (if_neg r0)).symm
  have e2 : al = lx := (HLX.out.trans (if_neg r0)).symm
  subst e1
  subst e2
  have hne : (r != 0) = true := by simpa using r0
  have ceXT := XT5.out.cell
  have lbXT := XT5.out.lt
  have ceXA := XA5.out.cell
  have lbXA := XA5.out.lt
  have ceXH := XH5.out.cell
  have lbXH := XH5.out.lt
  have ceXC := XC5.out.cell
  have lbXC := XC5.out.lt
  have ceXR := XR5.out.cell
  have lbXR := XR5.out.lt
  have fzXR := XR5.out.frozen
  go_wp2_with fail
  refine (l11Copy_any a A _ c al _ RA5.out hn).mono ?_
  rintro e v6 ⟨A6, n6, c6, rfl, ho, hb⟩
  obtain rfl : al.length = n6 := ho.1
  have HO := Lib.hid ho
  clear ho
  clear ceXT lbXT ceXA lbXA ceXH lbXH ceXC lbXC ceXR lbXR fzXR
  have hs6 := hb.size
  have XT6 := Lib.hid (XT5.out.below hb XT5.out.lt)
  have XA6 := Lib.hid (XA5.out.below hb XA5.out.lt)
  have XH6 := Lib.hid (XH5.out.below hb XH5.out.lt)
  have XC6 := Lib.hid (XC5.out.below hb XC5.out.lt)
  have XR6 := Lib.hid (XR5.out.below hb XR5.out.lt)
  have B6 := Lib.hid (B5.out.trans (hb.mono B5.out.size))
  have RA6 := Lib.hid ((RA5.out.below hb (Nat.le_refl _)).more hs6)
  have RN6 := Lib.hid ((RN5.out.below hb (Nat.le_refl _)).more hs6)
  have RS6 := Lib.hid ((RS5.out.below hb (Nat.le_refl _)).more hs6)
  clear hb XT5 XA5 XH5 XC5 XR5 B5 RA5 RN5 RS5
  have ceXR := XR6.out.cell
  have lbXR := XR6.out.lt
  have fzXR := XR6.out.frozen
  go_wp2_with fail
  refine bodyPost_ret (v := .tuple #[.agg #[.int .i64 a.h, .int .i64 a.t, .string a.last, .string a.vals, .string a.next, .string a.data, .slice A6 al.length c6], .int .i64 r]) (by simp [results, Tryz.results8, go_sem, ceXR]) rfl ⟨A6, c6, rfl, ?_, ?_⟩
  · refine (OwnL.chg (lo' := w.heap.size) (hi' := w.heap.size + 5) HO.out ?_ (.inr (by omega))).wide (by omega) (by simp)
    (repeat (first | with_reducible refine Chg.setCell ?_ (by first | exact Nat.le_refl _ | (simp; done) | (simp; omega)) (by first | (simp; done) | (simp; omega)) _ | with_reducible refine Chg.alloc ?_ _ | with_reducible refine Chg.drew ?_)); (with_reducible exact Chg.refl _ _ _)
  · refine (B6.out).trans ?_
    (repeat (first | with_reducible refine Below.setCell ?_ (by first | exact Nat.le_refl _ | (simp; done) | (simp; omega)) _ | with_reducible refine Below.alloc ?_ (by first | exact Nat.le_refl _ | (simp; done) | (simp; omega)) _ | with_reducible refine Below.drew ?_)); (with_reducible exact Below.refl _ _)
end Go.Proofs.YtelnnegfkdfpiaaGreatDoor
