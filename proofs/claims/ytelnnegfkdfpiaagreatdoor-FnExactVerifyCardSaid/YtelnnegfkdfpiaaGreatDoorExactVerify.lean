/- The program's Verify returns what the reference's returns, for all arguments. No conditions but the card's: the table of the hash is as the program's text lays it. (written by wip/exver.py) -/
import Derived.Test.YtelnnegfkdfpiaaGreatDoorVerAll
import Derived.Test.YtelnnegfkdfpiaaGreatDoorComFam
import Derived.Test.YtelnnegfkdfpiaaGreatDoorAnchorFam
import Derived.Test.YtelnnegfkdfpiaaGreatDoorElHeader
import Derived.Test.YtelnnegfkdfpiaaGreatDoorElVal
import Derived.Test.YtelnnegfkdfpiaaGreatDoorElCSig
import Derived.Test.YtelnnegfkdfpiaaGreatDoorCard
import Derived.Test.YtelnnegfkdfpiaaGreatDoorReg
import Derived.Test.YtelnnegfkdfpiaaGreatDoorL
import Derived.Deep.RegionWith
import Derived.Deep.DeepCutAuto
namespace Go.Proofs.YtelnnegfkdfpiaaGreatDoor
open Go.ChangeShapes Go.WideShapes Go.ChangeAt Go.RowKit Go.Joins

theorem getkV {b : Act} {dd : Option Nat} {v : Value} {s : Nat} {X : Value} (h : b.tmps.getD s undef = X) (hd : dd ≠ some s) : (b.put dd v).tmps.getD s undef = X := by
  cases dd with
  | none => exact h
  | some d => rw [put_getD_ne b d s v (fun e => hd (by rw [e]))]; exact h
theorem listV6 {l : List Value} (h : l.length = 6) : ∃ c0 c1 c2 c3 c4 c5, l = [c0, c1, c2, c3, c4, c5] := by
  match l, h with
  | [c0, c1, c2, c3, c4, c5], _ => exact ⟨c0, c1, c2, c3, c4, c5, rfl⟩
theorem listV4 {l : List Value} (h : l.length = 4) : ∃ c0 c1 c2 c3, l = [c0, c1, c2, c3] := by
  match l, h with
  | [c0, c1, c2, c3], _ => exact ⟨c0, c1, c2, c3, rfl⟩
theorem toValS_own (A : Option Addr) (n c : Nat) (l : List ValD) (w : World) (hl : RdL valC 2 w w.heap.size A n c l) (hn : n ≤ 1048576) : Calls Tryz.prog 21 #[.slice A n c] w (ValsOut l w) := by
  obtain rfl : l.length = n := hl.1
  refine (toValS_any A _ c l w hl hn).mono ?_
  intro e w' h
  obtain ⟨A1, c1, rfl, hown, _, hb⟩ := h.get hl.1
  obtain ⟨A2, c2, he, ho⟩ := OwnL.of_own hl.1 hown
  simp only [Value.slice.injEq, true_and] at he
  obtain ⟨rfl, rfl⟩ := he
  exact ⟨_, _, rfl, ho, hb⟩
theorem verV_len {r : Int} {al nl : List ValD} (h1 : al.length ≤ 1048576) (h2 : nl.length ≤ 1048576) : (verV r al nl).length ≤ 1048576 := by
  unfold verV
  split <;> omega

set_option maxRecDepth 100000 in
set_option maxHeartbeats 64000000 in
theorem ExactVerify_walk (per sl : Int) (sa sh : HeaderD) (A : Option Addr) (c : Nat) (al : List ValD) (B : Option Addr) (d : Nat) (nl : List ValD) (pc : ComD) (D : Option Addr) (q : Nat) (sg : List CSigD) (now : Int) (w : World)
    (hA : RdL valC 2 w w.heap.size A al.length c al) (hN : RdL valC 2 w w.heap.size B nl.length d nl) (hS : RdL csigC 2 w w.heap.size D sg.length q sg) (hs : ∀ x ∈ sg, x.sig.size ≤ maxLen) (hi : pc.id.size ≤ maxLen)
    (s1 : sa.last.size ≤ maxLen) (s2 : sa.vals.size ≤ maxLen) (s3 : sa.next.size ≤ maxLen) (s4 : sa.data.size ≤ maxLen) (t1 : sh.last.size ≤ maxLen) (t2 : sh.vals.size ≤ maxLen) (t3 : sh.next.size ≤ maxLen) (t4 : sh.data.size ≤ maxLen) (ht : Tab w) :
    Calls Tryz.prog 4 #[.agg #[.int .i64 per, .int .i64 sl], .agg #[.int .i64 sa.h, .int .i64 sa.t, .string sa.last, .string sa.vals, .string sa.next, .string sa.data, .slice A al.length c], .agg #[.int .i64 sh.h, .int .i64 sh.t, .string sh.last, .string sh.vals, .string sh.next, .string sh.data], .slice B nl.length d, .agg #[.int .i64 pc.h, .int .i64 pc.r, .string pc.id, .slice D sg.length q], .int .i64 now] w fun e w' => e = .returned (.bool true) ∧ Below w.heap.size w w' := by
  obtain ⟨r, hr⟩ : ∃ r, r = verN per sl sa al sh nl pc sg now := ⟨_, rfl⟩
  obtain ⟨rhd, hhs⟩ : ∃ x, x = verH r sa sh := ⟨_, rfl⟩
  obtain ⟨ls, hls⟩ : ∃ x, x = verV r al nl := ⟨_, rfl⟩
  have HSP : ∀ (wx : World) (A : Option Addr) (c : Nat) (B : Option Addr) (d : Nat) (D : Option Addr) (q : Nat), RdL valC 2 wx wx.heap.size A al.length c al → RdL valC 2 wx wx.heap.size B nl.length d nl → RdL csigC 2 wx wx.heap.size D sg.length q sg → al.length ≤ 1048576 → nl.length ≤ 1048576 →
      Hid (Calls Tryz.prog 8 #[.agg #[.int .i64 per, .int .i64 sl], .agg #[.int .i64 sa.h, .int .i64 sa.t, .string sa.last, .string sa.vals, .string sa.next, .string sa.data, .slice A al.length c], .agg #[.int .i64 sh.h, .int .i64 sh.t, .string sh.last, .string sh.vals, .string sh.next, .string sh.data], .slice B nl.length d, .agg #[.int .i64 pc.h, .int .i64 pc.r, .string pc.id, .slice D sg.length q], .int .i64 now] wx (VerOut rhd ls r wx)) := fun wx A c B d D q g1 g2 g3 g4 g5 => by
    have h := sVerify_any per sl sa sh A _ c al B _ d nl pc D _ q sg now wx g1 g2 g3 g4 g5
    rw [← hr, ← hhs, ← hls] at h
    exact h
  have HIM : ∀ (wx : World) (A : Option Addr) (c : Nat) (B : Option Addr) (d : Nat) (D : Option Addr) (q : Nat), RdL valC 2 wx wx.heap.size A al.length c al → RdL valC 2 wx wx.heap.size B nl.length d nl → RdL csigC 2 wx wx.heap.size D sg.length q sg → al.length ≤ 1048576 → nl.length ≤ 1048576 → Tab wx →
      Hid (Calls Tryz.prog 7 #[.agg #[.int .i64 per, .int .i64 sl], .agg #[.int .i64 sa.h, .int .i64 sa.t, .string sa.last, .string sa.vals, .string sa.next, .string sa.data, .slice A al.length c], .agg #[.int .i64 sh.h, .int .i64 sh.t, .string sh.last, .string sh.vals, .string sh.next, .string sh.data], .slice B nl.length d, .agg #[.int .i64 pc.h, .int .i64 pc.r, .string pc.id, .slice D sg.length q], .int .i64 now] wx (VerOut rhd ls r wx)) := fun wx A c B d D q g1 g2 g3 g4 g5 g6 => by
    have h := Verify_any per sl sa sh A _ c al B _ d nl pc D _ q sg now wx g1 g2 g3 g4 g5 g6
    rw [← hr, ← hhs, ← hls] at h
    exact h
  have HLL : al.length ≤ 1048576 → nl.length ≤ 1048576 → ls.length ≤ 1048576 := fun g1 g2 => by rw [hls]; exact verV_len g1 g2
  clear hr hhs hls
  have HA := Lib.hid hA
  have HN := Lib.hid hN
  have HS := Lib.hid hS
  have HT := Lib.hid ht
  have htp := ht.pos
  have HSG := Lib.hid hs
  have HNL := hN.le
  clear hA hN hS ht hs
  go_enter Tryz.func4, Tryz.ntmps4
  go_upto_region 1 with fail
  obtain ⟨v1, hwb⟩ : ∃ zq, zq = (((w.alloc (.cells #[.int .i64 per, .int .i64 sl] 44)).alloc (.cells #[.int .i64 sa.h, .int .i64 sa.t, .string sa.last, .string sa.vals, .string sa.next, .string sa.data, .slice A al.length c] 48)).alloc (.cells #[.int .i64 sh.h, .int .i64 sh.t, .string sh.last, .string sh.vals, .string sh.next, .string sh.data] 45)).alloc (.cells #[.int .i64 pc.h, .int .i64 pc.r, .string pc.id, .slice D sg.length q] 51) := ⟨_, rfl⟩
  rw [← hwb]
  have hxT : Blk v1 w.heap.size 44 #[.int .i64 per, .int .i64 sl] := by rw [hwb]; have h := heap_alloc_new w (.cells #[.int .i64 per, .int .i64 sl] 44); (try simp only [World.size_alloc] at h); exact (Blk.alloc (Blk.alloc (Blk.alloc h _) _) _)
  have hxA : Blk v1 (w.heap.size + 1) 48 #[.int .i64 sa.h, .int .i64 sa.t, .string sa.last, .string sa.vals, .string sa.next, .string sa.data, .slice A al.length c] := by rw [hwb]; have h := heap_alloc_new (w.alloc (.cells #[.int .i64 per, .int .i64 sl] 44)) (.cells #[.int .i64 sa.h, .int .i64 sa.t, .string sa.last, .string sa.vals, .string sa.next, .string sa.data, .slice A al.length c] 48); (try simp only [World.size_alloc] at h); exact (Blk.alloc (Blk.alloc h _) _)
  have hxH : Blk v1 (w.heap.size + 1 + 1) 45 #[.int .i64 sh.h, .int .i64 sh.t, .string sh.last, .string sh.vals, .string sh.next, .string sh.data] := by rw [hwb]; have h := heap_alloc_new ((w.alloc (.cells #[.int .i64 per, .int .i64 sl] 44)).alloc (.cells #[.int .i64 sa.h, .int .i64 sa.t, .string sa.last, .string sa.vals, .string sa.next, .string sa.data, .slice A al.length c] 48)) (.cells #[.int .i64 sh.h, .int .i64 sh.t, .string sh.last, .string sh.vals, .string sh.next, .string sh.data] 45); (try simp only [World.size_alloc] at h); exact (Blk.alloc h _)
  have hxC : Blk v1 (w.heap.size + 1 + 1 + 1) 51 #[.int .i64 pc.h, .int .i64 pc.r, .string pc.id, .slice D sg.length q] := by rw [hwb]; have h := heap_alloc_new (((w.alloc (.cells #[.int .i64 per, .int .i64 sl] 44)).alloc (.cells #[.int .i64 sa.h, .int .i64 sa.t, .string sa.last, .string sa.vals, .string sa.next, .string sa.data, .slice A al.length c] 48)).alloc (.cells #[.int .i64 sh.h, .int .i64 sh.t, .string sh.last, .string sh.vals, .string sh.next, .string sh.data] 45)) (.cells #[.int .i64 pc.h, .int .i64 pc.r, .string pc.id, .slice D sg.length q] 51); (try simp only [World.size_alloc] at h); exact h
  have hb0 : Below w.heap.size w v1 := by rw [hwb]; exact (Below.alloc (Below.alloc (Below.alloc (Below.alloc (Below.refl _ _) (by first | exact Nat.le_refl _ | (simp; done) | (simp; omega)) _) (by first | exact Nat.le_refl _ | (simp; done) | (simp; omega)) _) (by first | exact Nat.le_refl _ | (simp; done) | (simp; omega)) _) (by first | exact Nat.le_refl _ | (simp; done) | (simp; omega)) _)
  clear hwb
  have hs1 := hb0.size
  have XT1 := Lib.hid hxT
  have ltT := hxT.lt
  clear hxT
  have XA1 := Lib.hid hxA
  have ltA := hxA.lt
  clear hxA
  have XH1 := Lib.hid hxH
  have ltH := hxH.lt
  clear hxH
  have XC1 := Lib.hid hxC
  have ltC := hxC.lt
  clear hxC
  have B1 := Lib.hid hb0
  clear hb0
  have ceXT := XT1.out.cell
  have lbXT := XT1.out.lt
  have ceXA := XA1.out.cell
  have lbXA := XA1.out.lt
  have ceXH := XH1.out.cell
  have lbXH := XH1.out.lt
  have ceXC := XC1.out.cell
  have lbXC := XC1.out.lt
  go_wp2_with fail
  refine (szAnchor_any sa A _ c _ al _ ((HA.out.below B1.out (Nat.le_refl _)).more B1.out.size) s1 s2 s3 s4 (by decide) (by decide)).mono ?_
  rintro e v2 ⟨r1, rfl, ha1, ha2, ha3, hb⟩
  clear ceXT lbXT ceXA lbXA ceXH lbXH ceXC lbXC
  have hs2 := hb.size
  have XT2 := Lib.hid (XT1.out.below hb XT1.out.lt)
  have XA2 := Lib.hid (XA1.out.below hb XA1.out.lt)
  have XH2 := Lib.hid (XH1.out.below hb XH1.out.lt)
  have XC2 := Lib.hid (XC1.out.below hb XC1.out.lt)
  have B2 := Lib.hid (B1.out.trans (hb.mono B1.out.size))
  clear hb XT1 XA1 XH1 XC1 B1
  by_cases nr1 : r1 < 0
  · go_wp2_with fail
    go_ret
    exact ⟨rfl, B2.out⟩
  have hAL : al.length ≤ 1048576 := by have := ha1 (by omega); omega
  have hr1 : 0 ≤ r1 := by omega
  clear ha1 ha2
  have ceXT := XT2.out.cell
  have lbXT := XT2.out.lt
  have ceXA := XA2.out.cell
  have lbXA := XA2.out.lt
  have ceXH := XH2.out.cell
  have lbXH := XH2.out.lt
  have ceXC := XC2.out.cell
  have lbXC := XC2.out.lt
  go_wp2_with fail
  refine (szHeader_out _ _ _ _ _ _ r1 _ t1 t2 t3 t4 hr1 (by omega)).mono ?_
  rintro e v3 ⟨r2, rfl, _, ha2, hb2, hb⟩
  clear ceXT lbXT ceXA lbXA ceXH lbXH ceXC lbXC
  have hs3 := hb.size
  have XT3 := Lib.hid (XT2.out.below hb XT2.out.lt)
  have XA3 := Lib.hid (XA2.out.below hb XA2.out.lt)
  have XH3 := Lib.hid (XH2.out.below hb XH2.out.lt)
  have XC3 := Lib.hid (XC2.out.below hb XC2.out.lt)
  have B3 := Lib.hid (B2.out.trans (hb.mono B2.out.size))
  clear hb XT2 XA2 XH2 XC2 B2
  by_cases nr2 : r2 < 0
  · go_wp2_with fail
    go_ret
    exact ⟨rfl, B3.out⟩
  have hr2 : 0 ≤ r2 := by omega
  clear ha2
  have ceXT := XT3.out.cell
  have lbXT := XT3.out.lt
  have ceXA := XA3.out.cell
  have lbXA := XA3.out.lt
  have ceXH := XH3.out.cell
  have lbXH := XH3.out.lt
  have ceXC := XC3.out.cell
  have lbXC := XC3.out.lt
  go_wp2_with fail
  refine (szValS_any B _ d r2 _ HNL hr2 (by omega)).mono ?_
  rintro e v4 ⟨rfl, rfl⟩
  clear ceXT lbXT ceXA lbXA ceXH lbXH ceXC lbXC
  obtain ⟨r3, hr3⟩ : ∃ x : Int, x = if r2 < nl.length then -1 else r2 - nl.length := ⟨_, rfl⟩
  rw [← hr3]
  have hr4 : 0 ≤ r3 → (nl.length : Int) ≤ r2 := by rw [hr3]; split <;> omega
  have hr5 : r3 ≤ r2 := by rw [hr3]; split <;> omega
  clear hr3
  by_cases nr3 : r3 < 0
  · go_wp2_with fail
    go_ret
    exact ⟨rfl, B3.out⟩
  have hNL : nl.length ≤ 1048576 := by have := hr4 (by omega); omega
  have hr6 : 0 ≤ r3 := by omega
  clear hr4 HNL
  have ceXT := XT3.out.cell
  have lbXT := XT3.out.lt
  have ceXA := XA3.out.cell
  have lbXA := XA3.out.lt
  have ceXH := XH3.out.cell
  have lbXH := XH3.out.lt
  have ceXC := XC3.out.cell
  have lbXC := XC3.out.lt
  go_wp2_with fail
  refine (szCommit_any pc D _ q r3 sg _ ((HS.out.below B3.out (Nat.le_refl _)).more B3.out.size) HSG.out hi hr6 (by omega)).mono ?_
  rintro e v4 ⟨r4, rfl, ha1, ha2, ha3, hb⟩
  clear ceXT lbXT ceXA lbXA ceXH lbXH ceXC lbXC
  have hs4 := hb.size
  have XT4 := Lib.hid (XT3.out.below hb XT3.out.lt)
  have XA4 := Lib.hid (XA3.out.below hb XA3.out.lt)
  have XH4 := Lib.hid (XH3.out.below hb XH3.out.lt)
  have XC4 := Lib.hid (XC3.out.below hb XC3.out.lt)
  have B4 := Lib.hid (B3.out.trans (hb.mono B3.out.size))
  clear hb XT3 XA3 XH3 XC3 B3
  by_cases nr4 : r4 < 0
  · go_wp2_with fail
    go_ret
    exact ⟨rfl, B4.out⟩
  have hSL : sg.length ≤ 1048576 := by have := ha1 (by omega); omega
  have hLL := HLL hAL hNL
  clear ha1 ha2 ha3 nr1 nr2 nr3 hr1 hr2 hr5 hr6 hb2 HLL
  go_upto_region 14 with fail
  clear nr4
  have ceXT := XT4.out.cell
  have lbXT := XT4.out.lt
  have ceXA := XA4.out.cell
  have lbXA := XA4.out.lt
  have ceXH := XH4.out.cell
  have lbXH := XH4.out.lt
  have ceXC := XC4.out.cell
  have lbXC := XC4.out.lt
  go_cut [14, 15] (fun sp sk wx => ∃ qq A c ga gb, sp = .pointer (some ⟨qq, 0, none⟩) ∧ sk = .int .i64 r ∧ v4.heap.size ≤ qq ∧ Blk wx qq 30 #[.int .i64 rhd.h, .int .i64 rhd.t, .string rhd.last, .string rhd.vals, .string rhd.next, .string rhd.data, .slice A ls.length c] ∧ OwnL valC 2 84 wx ga gb A ls.length c ls ∧ v4.heap.size ≤ ga ∧ ga ≤ gb ∧ gb ≤ wx.heap.size ∧ (qq < ga ∨ gb ≤ qq) ∧ Below v4.heap.size v4 wx)
  case first =>
    refine wp_region_core [0, 1, 2, 3, 4, 5, 6, 7, 8, 9, 10, 11, 12, 13, 14, 15, 16] (Below v4.heap.size v4) (fun j wa wb => match j with | 16 => BoxTurn 30 wa wb | _ => Below wa.heap.size wa wb) (fun i b w => match i with
      | 0 => b.tmps.getD 47 undef = .agg #[.int .i64 per, .int .i64 sl]
      | 1 => b.tmps.getD 48 undef = .agg #[.int .i64 per, .int .i64 sl]
      | 2 => b.tmps.getD 49 undef = .agg #[.int .i64 sa.h, .int .i64 sa.t, .string sa.last, .string sa.vals, .string sa.next, .string sa.data, .slice A al.length c]
      | 3 => ∃ A c, b.tmps.getD 50 undef = .agg #[.int .i64 sa.h, .int .i64 sa.t, .string sa.last, .string sa.vals, .string sa.next, .string sa.data, .slice A al.length c] ∧ OwnL valC 2 84 w v4.heap.size w.heap.size A al.length c al
      | 4 => b.tmps.getD 51 undef = .agg #[.int .i64 sh.h, .int .i64 sh.t, .string sh.last, .string sh.vals, .string sh.next, .string sh.data]
      | 5 => b.tmps.getD 52 undef = .agg #[.int .i64 sh.h, .int .i64 sh.t, .string sh.last, .string sh.vals, .string sh.next, .string sh.data]
      | 6 => b.tmps.getD 53 undef = .slice B nl.length d
      | 7 => ∃ A c, b.tmps.getD 54 undef = .slice A nl.length c ∧ OwnL valC 2 84 w v4.heap.size w.heap.size A nl.length c nl
      | 8 => b.tmps.getD 55 undef = .agg #[.int .i64 pc.h, .int .i64 pc.r, .string pc.id, .slice D sg.length q]
      | 9 => ∃ A c, b.tmps.getD 56 undef = .agg #[.int .i64 pc.h, .int .i64 pc.r, .string pc.id, .slice A sg.length c] ∧ OwnL csigC 2 91 w v4.heap.size w.heap.size A sg.length c sg
      | 10 => b.tmps.getD 57 undef = .int .i64 now
      | 11 => ∃ A c, b.tmps.getD 58 undef = .tuple #[.agg #[.int .i64 rhd.h, .int .i64 rhd.t, .string rhd.last, .string rhd.vals, .string rhd.next, .string rhd.data, .slice A ls.length c], .int .i64 r] ∧ OwnL valC 2 84 w v4.heap.size w.heap.size A ls.length c ls
      | 12 => ∃ A c, b.tmps.getD 46 undef = .tuple #[.agg #[.int .i64 rhd.h, .int .i64 rhd.t, .string rhd.last, .string rhd.vals, .string rhd.next, .string rhd.data, .slice A ls.length c], .int .i64 r] ∧ OwnL valC 2 84 w v4.heap.size w.heap.size A ls.length c ls
      | 13 => ∃ A c, b.tmps.getD 46 undef = .tuple #[.agg #[.int .i64 rhd.h, .int .i64 rhd.t, .string rhd.last, .string rhd.vals, .string rhd.next, .string rhd.data, .slice A ls.length c], .int .i64 r] ∧ b.tmps.getD 59 undef = .agg #[.int .i64 rhd.h, .int .i64 rhd.t, .string rhd.last, .string rhd.vals, .string rhd.next, .string rhd.data, .slice A ls.length c] ∧ OwnL valC 2 84 w v4.heap.size w.heap.size A ls.length c ls
      | 14 => b.tmps.getD 60 undef = .int .i64 r
      | 15 => ∃ qq cs, b.tmps.getD 14 undef = .pointer (some ⟨qq, 0, none⟩) ∧ v4.heap.size ≤ qq ∧ cs.size = 7 ∧ Blk w qq 30 cs
      | 16 => ∃ qq A c, b.tmps.getD 14 undef = .pointer (some ⟨qq, 0, none⟩) ∧ b.tmps.getD 59 undef = .agg #[.int .i64 rhd.h, .int .i64 rhd.t, .string rhd.last, .string rhd.vals, .string rhd.next, .string rhd.data, .slice A ls.length c] ∧ v4.heap.size ≤ qq ∧ Blk w qq 30 #[.int .i64 rhd.h, .int .i64 rhd.t, .string rhd.last, .string rhd.vals, .string rhd.next, .string rhd.data, .slice A ls.length c]
      | _ => True) (by kernel_rfl) (by kernel_rfl) ((Below.refl _ _).drew) ?_ ?_ ?_
    · intro b wa wb i j oj v hi hj hij hoj hdep hE h
      simp only [List.mem_cons, List.not_mem_nil, or_false] at hi hj
      rcases hj with rfl | rfl | rfl | rfl | rfl | rfl | rfl | rfl | rfl | rfl | rfl | rfl | rfl | rfl | rfl | rfl | rfl
      all_goals obtain rfl := Option.some.inj hoj
      · rcases hi with rfl | rfl | rfl | rfl | rfl | rfl | rfl | rfl | rfl | rfl | rfl | rfl | rfl | rfl | rfl | rfl | rfl
        all_goals first | exact absurd rfl hij | (simp only at hE h ⊢; first | exact getkV h (by decide) | (obtain ⟨A, c, e, h⟩ := h; first | exact ⟨A, c, getkV e (by decide), (h.below hE (Nat.le_refl _)).wide (Nat.le_refl _) hE.size⟩ | exact ⟨A, c, getkV e (by decide), hE.row (by decide) h⟩ | (obtain ⟨e2, h⟩ := h; first | exact ⟨A, c, getkV e (by decide), getkV e2 (by decide), (h.below hE (Nat.le_refl _)).wide (Nat.le_refl _) hE.size⟩ | exact ⟨A, c, getkV e (by decide), getkV e2 (by decide), hE.row (by decide) h⟩ | (obtain ⟨h3, h4⟩ := h; first | exact ⟨A, c, getkV e (by decide), e2, h3, h4.below hE h4.lt⟩ | (obtain ⟨c', h5, h6⟩ := hE.box h4; exact ⟨A, c', getkV e (by decide), e2, h5.trans h3, h6⟩)))) | (obtain ⟨qq, A, c, e, e2, h3, h4⟩ := h; exact ⟨qq, A, c, getkV e (by decide), getkV e2 (by decide), h3, h4.below hE h4.lt⟩)) | exact absurd rfl (hdep _ rfl ⟨0, .data⟩ (by simp) rfl)
      · rcases hi with rfl | rfl | rfl | rfl | rfl | rfl | rfl | rfl | rfl | rfl | rfl | rfl | rfl | rfl | rfl | rfl | rfl
        all_goals first | exact absurd rfl hij | (simp only at hE h ⊢; first | exact getkV h (by decide) | (obtain ⟨A, c, e, h⟩ := h; first | exact ⟨A, c, getkV e (by decide), (h.below hE (Nat.le_refl _)).wide (Nat.le_refl _) hE.size⟩ | exact ⟨A, c, getkV e (by decide), hE.row (by decide) h⟩ | (obtain ⟨e2, h⟩ := h; first | exact ⟨A, c, getkV e (by decide), getkV e2 (by decide), (h.below hE (Nat.le_refl _)).wide (Nat.le_refl _) hE.size⟩ | exact ⟨A, c, getkV e (by decide), getkV e2 (by decide), hE.row (by decide) h⟩ | (obtain ⟨h3, h4⟩ := h; first | exact ⟨A, c, getkV e (by decide), e2, h3, h4.below hE h4.lt⟩ | (obtain ⟨c', h5, h6⟩ := hE.box h4; exact ⟨A, c', getkV e (by decide), e2, h5.trans h3, h6⟩)))) | (obtain ⟨qq, A, c, e, e2, h3, h4⟩ := h; exact ⟨qq, A, c, getkV e (by decide), getkV e2 (by decide), h3, h4.below hE h4.lt⟩)) | exact absurd rfl (hdep _ rfl ⟨1, .data⟩ (by simp) rfl)
      · rcases hi with rfl | rfl | rfl | rfl | rfl | rfl | rfl | rfl | rfl | rfl | rfl | rfl | rfl | rfl | rfl | rfl | rfl
        all_goals first | exact absurd rfl hij | (simp only at hE h ⊢; first | exact getkV h (by decide) | (obtain ⟨A, c, e, h⟩ := h; first | exact ⟨A, c, getkV e (by decide), (h.below hE (Nat.le_refl _)).wide (Nat.le_refl _) hE.size⟩ | exact ⟨A, c, getkV e (by decide), hE.row (by decide) h⟩ | (obtain ⟨e2, h⟩ := h; first | exact ⟨A, c, getkV e (by decide), getkV e2 (by decide), (h.below hE (Nat.le_refl _)).wide (Nat.le_refl _) hE.size⟩ | exact ⟨A, c, getkV e (by decide), getkV e2 (by decide), hE.row (by decide) h⟩ | (obtain ⟨h3, h4⟩ := h; first | exact ⟨A, c, getkV e (by decide), e2, h3, h4.below hE h4.lt⟩ | (obtain ⟨c', h5, h6⟩ := hE.box h4; exact ⟨A, c', getkV e (by decide), e2, h5.trans h3, h6⟩)))) | (obtain ⟨qq, A, c, e, e2, h3, h4⟩ := h; exact ⟨qq, A, c, getkV e (by decide), getkV e2 (by decide), h3, h4.below hE h4.lt⟩)) | exact absurd rfl (hdep _ rfl ⟨2, .data⟩ (by simp) rfl)
      · rcases hi with rfl | rfl | rfl | rfl | rfl | rfl | rfl | rfl | rfl | rfl | rfl | rfl | rfl | rfl | rfl | rfl | rfl
        all_goals first | exact absurd rfl hij | (simp only at hE h ⊢; first | exact getkV h (by decide) | (obtain ⟨A, c, e, h⟩ := h; first | exact ⟨A, c, getkV e (by decide), (h.below hE (Nat.le_refl _)).wide (Nat.le_refl _) hE.size⟩ | exact ⟨A, c, getkV e (by decide), hE.row (by decide) h⟩ | (obtain ⟨e2, h⟩ := h; first | exact ⟨A, c, getkV e (by decide), getkV e2 (by decide), (h.below hE (Nat.le_refl _)).wide (Nat.le_refl _) hE.size⟩ | exact ⟨A, c, getkV e (by decide), getkV e2 (by decide), hE.row (by decide) h⟩ | (obtain ⟨h3, h4⟩ := h; first | exact ⟨A, c, getkV e (by decide), e2, h3, h4.below hE h4.lt⟩ | (obtain ⟨c', h5, h6⟩ := hE.box h4; exact ⟨A, c', getkV e (by decide), e2, h5.trans h3, h6⟩)))) | (obtain ⟨qq, A, c, e, e2, h3, h4⟩ := h; exact ⟨qq, A, c, getkV e (by decide), getkV e2 (by decide), h3, h4.below hE h4.lt⟩)) | exact absurd rfl (hdep _ rfl ⟨3, .data⟩ (by simp) rfl)
      · rcases hi with rfl | rfl | rfl | rfl | rfl | rfl | rfl | rfl | rfl | rfl | rfl | rfl | rfl | rfl | rfl | rfl | rfl
        all_goals first | exact absurd rfl hij | (simp only at hE h ⊢; first | exact getkV h (by decide) | (obtain ⟨A, c, e, h⟩ := h; first | exact ⟨A, c, getkV e (by decide), (h.below hE (Nat.le_refl _)).wide (Nat.le_refl _) hE.size⟩ | exact ⟨A, c, getkV e (by decide), hE.row (by decide) h⟩ | (obtain ⟨e2, h⟩ := h; first | exact ⟨A, c, getkV e (by decide), getkV e2 (by decide), (h.below hE (Nat.le_refl _)).wide (Nat.le_refl _) hE.size⟩ | exact ⟨A, c, getkV e (by decide), getkV e2 (by decide), hE.row (by decide) h⟩ | (obtain ⟨h3, h4⟩ := h; first | exact ⟨A, c, getkV e (by decide), e2, h3, h4.below hE h4.lt⟩ | (obtain ⟨c', h5, h6⟩ := hE.box h4; exact ⟨A, c', getkV e (by decide), e2, h5.trans h3, h6⟩)))) | (obtain ⟨qq, A, c, e, e2, h3, h4⟩ := h; exact ⟨qq, A, c, getkV e (by decide), getkV e2 (by decide), h3, h4.below hE h4.lt⟩)) | exact absurd rfl (hdep _ rfl ⟨4, .data⟩ (by simp) rfl)
      · rcases hi with rfl | rfl | rfl | rfl | rfl | rfl | rfl | rfl | rfl | rfl | rfl | rfl | rfl | rfl | rfl | rfl | rfl
        all_goals first | exact absurd rfl hij | (simp only at hE h ⊢; first | exact getkV h (by decide) | (obtain ⟨A, c, e, h⟩ := h; first | exact ⟨A, c, getkV e (by decide), (h.below hE (Nat.le_refl _)).wide (Nat.le_refl _) hE.size⟩ | exact ⟨A, c, getkV e (by decide), hE.row (by decide) h⟩ | (obtain ⟨e2, h⟩ := h; first | exact ⟨A, c, getkV e (by decide), getkV e2 (by decide), (h.below hE (Nat.le_refl _)).wide (Nat.le_refl _) hE.size⟩ | exact ⟨A, c, getkV e (by decide), getkV e2 (by decide), hE.row (by decide) h⟩ | (obtain ⟨h3, h4⟩ := h; first | exact ⟨A, c, getkV e (by decide), e2, h3, h4.below hE h4.lt⟩ | (obtain ⟨c', h5, h6⟩ := hE.box h4; exact ⟨A, c', getkV e (by decide), e2, h5.trans h3, h6⟩)))) | (obtain ⟨qq, A, c, e, e2, h3, h4⟩ := h; exact ⟨qq, A, c, getkV e (by decide), getkV e2 (by decide), h3, h4.below hE h4.lt⟩)) | exact absurd rfl (hdep _ rfl ⟨5, .data⟩ (by simp) rfl)
      · rcases hi with rfl | rfl | rfl | rfl | rfl | rfl | rfl | rfl | rfl | rfl | rfl | rfl | rfl | rfl | rfl | rfl | rfl
        all_goals first | exact absurd rfl hij | (simp only at hE h ⊢; first | exact getkV h (by decide) | (obtain ⟨A, c, e, h⟩ := h; first | exact ⟨A, c, getkV e (by decide), (h.below hE (Nat.le_refl _)).wide (Nat.le_refl _) hE.size⟩ | exact ⟨A, c, getkV e (by decide), hE.row (by decide) h⟩ | (obtain ⟨e2, h⟩ := h; first | exact ⟨A, c, getkV e (by decide), getkV e2 (by decide), (h.below hE (Nat.le_refl _)).wide (Nat.le_refl _) hE.size⟩ | exact ⟨A, c, getkV e (by decide), getkV e2 (by decide), hE.row (by decide) h⟩ | (obtain ⟨h3, h4⟩ := h; first | exact ⟨A, c, getkV e (by decide), e2, h3, h4.below hE h4.lt⟩ | (obtain ⟨c', h5, h6⟩ := hE.box h4; exact ⟨A, c', getkV e (by decide), e2, h5.trans h3, h6⟩)))) | (obtain ⟨qq, A, c, e, e2, h3, h4⟩ := h; exact ⟨qq, A, c, getkV e (by decide), getkV e2 (by decide), h3, h4.below hE h4.lt⟩)) | exact absurd rfl (hdep _ rfl ⟨6, .data⟩ (by simp) rfl)
      · rcases hi with rfl | rfl | rfl | rfl | rfl | rfl | rfl | rfl | rfl | rfl | rfl | rfl | rfl | rfl | rfl | rfl | rfl
        all_goals first | exact absurd rfl hij | (simp only at hE h ⊢; first | exact getkV h (by decide) | (obtain ⟨A, c, e, h⟩ := h; first | exact ⟨A, c, getkV e (by decide), (h.below hE (Nat.le_refl _)).wide (Nat.le_refl _) hE.size⟩ | exact ⟨A, c, getkV e (by decide), hE.row (by decide) h⟩ | (obtain ⟨e2, h⟩ := h; first | exact ⟨A, c, getkV e (by decide), getkV e2 (by decide), (h.below hE (Nat.le_refl _)).wide (Nat.le_refl _) hE.size⟩ | exact ⟨A, c, getkV e (by decide), getkV e2 (by decide), hE.row (by decide) h⟩ | (obtain ⟨h3, h4⟩ := h; first | exact ⟨A, c, getkV e (by decide), e2, h3, h4.below hE h4.lt⟩ | (obtain ⟨c', h5, h6⟩ := hE.box h4; exact ⟨A, c', getkV e (by decide), e2, h5.trans h3, h6⟩)))) | (obtain ⟨qq, A, c, e, e2, h3, h4⟩ := h; exact ⟨qq, A, c, getkV e (by decide), getkV e2 (by decide), h3, h4.below hE h4.lt⟩)) | exact absurd rfl (hdep _ rfl ⟨7, .data⟩ (by simp) rfl)
      · rcases hi with rfl | rfl | rfl | rfl | rfl | rfl | rfl | rfl | rfl | rfl | rfl | rfl | rfl | rfl | rfl | rfl | rfl
        all_goals first | exact absurd rfl hij | (simp only at hE h ⊢; first | exact getkV h (by decide) | (obtain ⟨A, c, e, h⟩ := h; first | exact ⟨A, c, getkV e (by decide), (h.below hE (Nat.le_refl _)).wide (Nat.le_refl _) hE.size⟩ | exact ⟨A, c, getkV e (by decide), hE.row (by decide) h⟩ | (obtain ⟨e2, h⟩ := h; first | exact ⟨A, c, getkV e (by decide), getkV e2 (by decide), (h.below hE (Nat.le_refl _)).wide (Nat.le_refl _) hE.size⟩ | exact ⟨A, c, getkV e (by decide), getkV e2 (by decide), hE.row (by decide) h⟩ | (obtain ⟨h3, h4⟩ := h; first | exact ⟨A, c, getkV e (by decide), e2, h3, h4.below hE h4.lt⟩ | (obtain ⟨c', h5, h6⟩ := hE.box h4; exact ⟨A, c', getkV e (by decide), e2, h5.trans h3, h6⟩)))) | (obtain ⟨qq, A, c, e, e2, h3, h4⟩ := h; exact ⟨qq, A, c, getkV e (by decide), getkV e2 (by decide), h3, h4.below hE h4.lt⟩)) | exact absurd rfl (hdep _ rfl ⟨8, .data⟩ (by simp) rfl)
      · rcases hi with rfl | rfl | rfl | rfl | rfl | rfl | rfl | rfl | rfl | rfl | rfl | rfl | rfl | rfl | rfl | rfl | rfl
        all_goals first | exact absurd rfl hij | (simp only at hE h ⊢; first | exact getkV h (by decide) | (obtain ⟨A, c, e, h⟩ := h; first | exact ⟨A, c, getkV e (by decide), (h.below hE (Nat.le_refl _)).wide (Nat.le_refl _) hE.size⟩ | exact ⟨A, c, getkV e (by decide), hE.row (by decide) h⟩ | (obtain ⟨e2, h⟩ := h; first | exact ⟨A, c, getkV e (by decide), getkV e2 (by decide), (h.below hE (Nat.le_refl _)).wide (Nat.le_refl _) hE.size⟩ | exact ⟨A, c, getkV e (by decide), getkV e2 (by decide), hE.row (by decide) h⟩ | (obtain ⟨h3, h4⟩ := h; first | exact ⟨A, c, getkV e (by decide), e2, h3, h4.below hE h4.lt⟩ | (obtain ⟨c', h5, h6⟩ := hE.box h4; exact ⟨A, c', getkV e (by decide), e2, h5.trans h3, h6⟩)))) | (obtain ⟨qq, A, c, e, e2, h3, h4⟩ := h; exact ⟨qq, A, c, getkV e (by decide), getkV e2 (by decide), h3, h4.below hE h4.lt⟩)) | exact absurd rfl (hdep _ rfl ⟨9, .data⟩ (by simp) rfl)
      · rcases hi with rfl | rfl | rfl | rfl | rfl | rfl | rfl | rfl | rfl | rfl | rfl | rfl | rfl | rfl | rfl | rfl | rfl
        all_goals first | exact absurd rfl hij | (simp only at hE h ⊢; first | exact getkV h (by decide) | (obtain ⟨A, c, e, h⟩ := h; first | exact ⟨A, c, getkV e (by decide), (h.below hE (Nat.le_refl _)).wide (Nat.le_refl _) hE.size⟩ | exact ⟨A, c, getkV e (by decide), hE.row (by decide) h⟩ | (obtain ⟨e2, h⟩ := h; first | exact ⟨A, c, getkV e (by decide), getkV e2 (by decide), (h.below hE (Nat.le_refl _)).wide (Nat.le_refl _) hE.size⟩ | exact ⟨A, c, getkV e (by decide), getkV e2 (by decide), hE.row (by decide) h⟩ | (obtain ⟨h3, h4⟩ := h; first | exact ⟨A, c, getkV e (by decide), e2, h3, h4.below hE h4.lt⟩ | (obtain ⟨c', h5, h6⟩ := hE.box h4; exact ⟨A, c', getkV e (by decide), e2, h5.trans h3, h6⟩)))) | (obtain ⟨qq, A, c, e, e2, h3, h4⟩ := h; exact ⟨qq, A, c, getkV e (by decide), getkV e2 (by decide), h3, h4.below hE h4.lt⟩)) | exact absurd rfl (hdep _ rfl ⟨10, .data⟩ (by simp) rfl)
      · rcases hi with rfl | rfl | rfl | rfl | rfl | rfl | rfl | rfl | rfl | rfl | rfl | rfl | rfl | rfl | rfl | rfl | rfl
        all_goals first | exact absurd rfl hij | (simp only at hE h ⊢; first | exact getkV h (by decide) | (obtain ⟨A, c, e, h⟩ := h; first | exact ⟨A, c, getkV e (by decide), (h.below hE (Nat.le_refl _)).wide (Nat.le_refl _) hE.size⟩ | exact ⟨A, c, getkV e (by decide), hE.row (by decide) h⟩ | (obtain ⟨e2, h⟩ := h; first | exact ⟨A, c, getkV e (by decide), getkV e2 (by decide), (h.below hE (Nat.le_refl _)).wide (Nat.le_refl _) hE.size⟩ | exact ⟨A, c, getkV e (by decide), getkV e2 (by decide), hE.row (by decide) h⟩ | (obtain ⟨h3, h4⟩ := h; first | exact ⟨A, c, getkV e (by decide), e2, h3, h4.below hE h4.lt⟩ | (obtain ⟨c', h5, h6⟩ := hE.box h4; exact ⟨A, c', getkV e (by decide), e2, h5.trans h3, h6⟩)))) | (obtain ⟨qq, A, c, e, e2, h3, h4⟩ := h; exact ⟨qq, A, c, getkV e (by decide), getkV e2 (by decide), h3, h4.below hE h4.lt⟩)) | exact absurd rfl (hdep _ rfl ⟨11, .data⟩ (by simp) rfl)
      · rcases hi with rfl | rfl | rfl | rfl | rfl | rfl | rfl | rfl | rfl | rfl | rfl | rfl | rfl | rfl | rfl | rfl | rfl
        all_goals first | exact absurd rfl hij | (simp only at hE h ⊢; first | exact getkV h (by decide) | (obtain ⟨A, c, e, h⟩ := h; first | exact ⟨A, c, getkV e (by decide), (h.below hE (Nat.le_refl _)).wide (Nat.le_refl _) hE.size⟩ | exact ⟨A, c, getkV e (by decide), hE.row (by decide) h⟩ | (obtain ⟨e2, h⟩ := h; first | exact ⟨A, c, getkV e (by decide), getkV e2 (by decide), (h.below hE (Nat.le_refl _)).wide (Nat.le_refl _) hE.size⟩ | exact ⟨A, c, getkV e (by decide), getkV e2 (by decide), hE.row (by decide) h⟩ | (obtain ⟨h3, h4⟩ := h; first | exact ⟨A, c, getkV e (by decide), e2, h3, h4.below hE h4.lt⟩ | (obtain ⟨c', h5, h6⟩ := hE.box h4; exact ⟨A, c', getkV e (by decide), e2, h5.trans h3, h6⟩)))) | (obtain ⟨qq, A, c, e, e2, h3, h4⟩ := h; exact ⟨qq, A, c, getkV e (by decide), getkV e2 (by decide), h3, h4.below hE h4.lt⟩)) | exact absurd rfl (hdep _ rfl ⟨12, .data⟩ (by simp) rfl)
      · rcases hi with rfl | rfl | rfl | rfl | rfl | rfl | rfl | rfl | rfl | rfl | rfl | rfl | rfl | rfl | rfl | rfl | rfl
        all_goals first | exact absurd rfl hij | (simp only at hE h ⊢; first | exact getkV h (by decide) | (obtain ⟨A, c, e, h⟩ := h; first | exact ⟨A, c, getkV e (by decide), (h.below hE (Nat.le_refl _)).wide (Nat.le_refl _) hE.size⟩ | exact ⟨A, c, getkV e (by decide), hE.row (by decide) h⟩ | (obtain ⟨e2, h⟩ := h; first | exact ⟨A, c, getkV e (by decide), getkV e2 (by decide), (h.below hE (Nat.le_refl _)).wide (Nat.le_refl _) hE.size⟩ | exact ⟨A, c, getkV e (by decide), getkV e2 (by decide), hE.row (by decide) h⟩ | (obtain ⟨h3, h4⟩ := h; first | exact ⟨A, c, getkV e (by decide), e2, h3, h4.below hE h4.lt⟩ | (obtain ⟨c', h5, h6⟩ := hE.box h4; exact ⟨A, c', getkV e (by decide), e2, h5.trans h3, h6⟩)))) | (obtain ⟨qq, A, c, e, e2, h3, h4⟩ := h; exact ⟨qq, A, c, getkV e (by decide), getkV e2 (by decide), h3, h4.below hE h4.lt⟩)) | exact absurd rfl (hdep _ rfl ⟨13, .data⟩ (by simp) rfl)
      · rcases hi with rfl | rfl | rfl | rfl | rfl | rfl | rfl | rfl | rfl | rfl | rfl | rfl | rfl | rfl | rfl | rfl | rfl
        all_goals first | exact absurd rfl hij | (simp only at hE h ⊢; first | exact getkV h (by decide) | (obtain ⟨A, c, e, h⟩ := h; first | exact ⟨A, c, getkV e (by decide), (h.below hE (Nat.le_refl _)).wide (Nat.le_refl _) hE.size⟩ | exact ⟨A, c, getkV e (by decide), hE.row (by decide) h⟩ | (obtain ⟨e2, h⟩ := h; first | exact ⟨A, c, getkV e (by decide), getkV e2 (by decide), (h.below hE (Nat.le_refl _)).wide (Nat.le_refl _) hE.size⟩ | exact ⟨A, c, getkV e (by decide), getkV e2 (by decide), hE.row (by decide) h⟩ | (obtain ⟨h3, h4⟩ := h; first | exact ⟨A, c, getkV e (by decide), e2, h3, h4.below hE h4.lt⟩ | (obtain ⟨c', h5, h6⟩ := hE.box h4; exact ⟨A, c', getkV e (by decide), e2, h5.trans h3, h6⟩)))) | (obtain ⟨qq, A, c, e, e2, h3, h4⟩ := h; exact ⟨qq, A, c, getkV e (by decide), getkV e2 (by decide), h3, h4.below hE h4.lt⟩)) | exact absurd rfl (hdep _ rfl ⟨14, .data⟩ (by simp) rfl)
      · rcases hi with rfl | rfl | rfl | rfl | rfl | rfl | rfl | rfl | rfl | rfl | rfl | rfl | rfl | rfl | rfl | rfl | rfl
        all_goals first | exact absurd rfl hij | (simp only at hE h ⊢; first | exact getkV h (by decide) | (obtain ⟨A, c, e, h⟩ := h; first | exact ⟨A, c, getkV e (by decide), (h.below hE (Nat.le_refl _)).wide (Nat.le_refl _) hE.size⟩ | exact ⟨A, c, getkV e (by decide), hE.row (by decide) h⟩ | (obtain ⟨e2, h⟩ := h; first | exact ⟨A, c, getkV e (by decide), getkV e2 (by decide), (h.below hE (Nat.le_refl _)).wide (Nat.le_refl _) hE.size⟩ | exact ⟨A, c, getkV e (by decide), getkV e2 (by decide), hE.row (by decide) h⟩ | (obtain ⟨h3, h4⟩ := h; first | exact ⟨A, c, getkV e (by decide), e2, h3, h4.below hE h4.lt⟩ | (obtain ⟨c', h5, h6⟩ := hE.box h4; exact ⟨A, c', getkV e (by decide), e2, h5.trans h3, h6⟩)))) | (obtain ⟨qq, A, c, e, e2, h3, h4⟩ := h; exact ⟨qq, A, c, getkV e (by decide), getkV e2 (by decide), h3, h4.below hE h4.lt⟩)) | exact absurd rfl (hdep _ rfl ⟨15, .data⟩ (by simp) rfl)
      · rcases hi with rfl | rfl | rfl | rfl | rfl | rfl | rfl | rfl | rfl | rfl | rfl | rfl | rfl | rfl | rfl | rfl | rfl
        all_goals first | exact absurd rfl hij | (simp only at hE h ⊢; first | exact getkV h (by decide) | (obtain ⟨A, c, e, h⟩ := h; first | exact ⟨A, c, getkV e (by decide), (h.below hE (Nat.le_refl _)).wide (Nat.le_refl _) hE.size⟩ | exact ⟨A, c, getkV e (by decide), hE.row (by decide) h⟩ | (obtain ⟨e2, h⟩ := h; first | exact ⟨A, c, getkV e (by decide), getkV e2 (by decide), (h.below hE (Nat.le_refl _)).wide (Nat.le_refl _) hE.size⟩ | exact ⟨A, c, getkV e (by decide), getkV e2 (by decide), hE.row (by decide) h⟩ | (obtain ⟨h3, h4⟩ := h; first | exact ⟨A, c, getkV e (by decide), e2, h3, h4.below hE h4.lt⟩ | (obtain ⟨c', h5, h6⟩ := hE.box h4; exact ⟨A, c', getkV e (by decide), e2, h5.trans h3, h6⟩)))) | (obtain ⟨qq, A, c, e, e2, h3, h4⟩ := h; exact ⟨qq, A, c, getkV e (by decide), getkV e2 (by decide), h3, h4.below hE h4.lt⟩)) | exact absurd rfl (hdep _ rfl ⟨16, .data⟩ (by simp) rfl)
    · intro j o hj ho a' w' hC hsame hdep
      have hz : v4.heap.size ≤ w'.heap.size := hC.size
      simp only [List.mem_cons, List.not_mem_nil, or_false] at hj
      rcases hj with rfl | rfl | rfl | rfl | rfl | rfl | rfl | rfl | rfl | rfl | rfl | rfl | rfl | rfl | rfl | rfl | rfl
      all_goals obtain rfl := Option.some.inj ho
      · have hss : a'.tmps.getD 6 undef = .pointer (some ⟨w.heap.size, 0, none⟩) := hsame 6 (by rfl)
        have zz : ∀ o, w'.cell? ⟨w.heap.size, o, none⟩ = _ := fun o => (hC.cell (p := ⟨w.heap.size, o, none⟩) (by show w.heap.size < v4.heap.size; omega)).trans (ceXT o)
        refine wp_val (w2 := w') (.agg #[.int .i64 per, .int .i64 sl]) (fun K hK => ?_) ⟨_, rfl, hC, Below.refl _ _, fun b hb _ => hb 47 rfl⟩
        clear hsame hdep
        unfold Oper.wp
        simp [execOp, Act.eval, hss, go_sem, zz]
        exact hK
      · have e1 : a'.tmps.getD 47 undef = .agg #[.int .i64 per, .int .i64 sl] := hdep ⟨0, .data⟩ (by simp) rfl
        refine wp_call (fun u w2 => u = .agg #[.int .i64 per, .int .i64 sl] ∧ Below w'.heap.size w' w2) (fun K hK => ?_) ?_
        · clear hsame hdep
          unfold Oper.wp
          simp [Act.eval, e1, go_sem]
          refine (toTrust_any per sl _).mono ?_
          rintro e w3 ⟨rfl, hb3⟩
          exact hK _ _ ⟨rfl, hb3⟩
        · rintro u w3 ⟨rfl, hb3⟩
          exact ⟨_, rfl, hC.trans (hb3.mono hz), hb3, fun b hb _ => hb 48 rfl⟩
      · have hss : a'.tmps.getD 7 undef = .pointer (some ⟨w.heap.size + 1, 0, none⟩) := hsame 7 (by rfl)
        have zz : ∀ o, w'.cell? ⟨w.heap.size + 1, o, none⟩ = _ := fun o => (hC.cell (p := ⟨w.heap.size + 1, o, none⟩) (by show w.heap.size + 1 < v4.heap.size; omega)).trans (ceXA o)
        refine wp_val (w2 := w') (.agg #[.int .i64 sa.h, .int .i64 sa.t, .string sa.last, .string sa.vals, .string sa.next, .string sa.data, .slice A al.length c]) (fun K hK => ?_) ⟨_, rfl, hC, Below.refl _ _, fun b hb _ => hb 49 rfl⟩
        clear hsame hdep
        unfold Oper.wp
        simp [execOp, Act.eval, hss, go_sem, zz]
        exact hK
      · have e1 : a'.tmps.getD 49 undef = .agg #[.int .i64 sa.h, .int .i64 sa.t, .string sa.last, .string sa.vals, .string sa.next, .string sa.data, .slice A al.length c] := hdep ⟨2, .data⟩ (by simp) rfl
        have hrr := (((HA.out.below B4.out (Nat.le_refl _)).more B4.out.size).below hC (Nat.le_refl _)).more hz
        refine wp_call (fun u w2 => ∃ A2 c2, u = .agg #[.int .i64 sa.h, .int .i64 sa.t, .string sa.last, .string sa.vals, .string sa.next, .string sa.data, .slice A2 al.length c2] ∧ OwnL valC 2 84 w2 w'.heap.size w2.heap.size A2 al.length c2 al ∧ Below w'.heap.size w' w2) (fun K hK => ?_) ?_
        · clear hsame hdep
          unfold Oper.wp
          simp [Act.eval, e1, go_sem]
          refine (toAnchor_any sa A _ c al _ hrr (by omega)).mono ?_
          rintro e w3 ⟨A7, n7, c7, rfl, ho3, hb3⟩
          obtain rfl : al.length = n7 := ho3.1
          exact hK _ _ ⟨A7, c7, rfl, ho3, hb3⟩
        · rintro u w3 ⟨A7, c7, rfl, ho3, hb3⟩
          exact ⟨_, rfl, hC.trans (hb3.mono hz), hb3, fun b hb _ => ⟨A7, c7, hb 50 rfl, ho3.wide hz (Nat.le_refl _)⟩⟩
      · have hss : a'.tmps.getD 8 undef = .pointer (some ⟨w.heap.size + 1 + 1, 0, none⟩) := hsame 8 (by rfl)
        have zz : ∀ o, w'.cell? ⟨w.heap.size + 1 + 1, o, none⟩ = _ := fun o => (hC.cell (p := ⟨w.heap.size + 1 + 1, o, none⟩) (by show w.heap.size + 1 + 1 < v4.heap.size; omega)).trans (ceXH o)
        refine wp_val (w2 := w') (.agg #[.int .i64 sh.h, .int .i64 sh.t, .string sh.last, .string sh.vals, .string sh.next, .string sh.data]) (fun K hK => ?_) ⟨_, rfl, hC, Below.refl _ _, fun b hb _ => hb 51 rfl⟩
        clear hsame hdep
        unfold Oper.wp
        simp [execOp, Act.eval, hss, go_sem, zz]
        exact hK
      · have e1 : a'.tmps.getD 51 undef = .agg #[.int .i64 sh.h, .int .i64 sh.t, .string sh.last, .string sh.vals, .string sh.next, .string sh.data] := hdep ⟨4, .data⟩ (by simp) rfl
        refine wp_call (fun u w2 => u = .agg #[.int .i64 sh.h, .int .i64 sh.t, .string sh.last, .string sh.vals, .string sh.next, .string sh.data] ∧ Below w'.heap.size w' w2) (fun K hK => ?_) ?_
        · clear hsame hdep
          unfold Oper.wp
          simp [Act.eval, e1, go_sem]
          refine (toHeader_any _ _ _ _ _ _ _).mono ?_
          rintro e w3 ⟨rfl, hb3⟩
          exact hK _ _ ⟨rfl, hb3⟩
        · rintro u w3 ⟨rfl, hb3⟩
          exact ⟨_, rfl, hC.trans (hb3.mono hz), hb3, fun b hb _ => hb 52 rfl⟩
      · have hss : a'.tmps.getD 3 undef = .slice B nl.length d := hsame 3 (by rfl)
        refine wp_val (w2 := w') (.slice B nl.length d) (fun K hK => ?_) ⟨_, rfl, hC, Below.refl _ _, fun b hb _ => hb 53 rfl⟩
        clear hsame hdep
        unfold Oper.wp
        simp [execOp, Act.eval, hss, go_sem]
        exact hK
      · have e1 : a'.tmps.getD 53 undef = .slice B nl.length d := hdep ⟨6, .data⟩ (by simp) rfl
        have hrr := (((HN.out.below B4.out (Nat.le_refl _)).more B4.out.size).below hC (Nat.le_refl _)).more hz
        refine wp_call (fun u w2 => ∃ A2 c2, u = .slice A2 nl.length c2 ∧ OwnL valC 2 84 w2 w'.heap.size w2.heap.size A2 nl.length c2 nl ∧ Below w'.heap.size w' w2) (fun K hK => ?_) ?_
        · clear hsame hdep
          unfold Oper.wp
          simp [Act.eval, e1, go_sem]
          refine (toValS_own B _ d nl _ hrr (by omega)).mono ?_
          rintro e w3 ⟨A7, c7, rfl, ho3, hb3⟩
          exact hK _ _ ⟨A7, c7, rfl, ho3, hb3⟩
        · rintro u w3 ⟨A7, c7, rfl, ho3, hb3⟩
          exact ⟨_, rfl, hC.trans (hb3.mono hz), hb3, fun b hb _ => ⟨A7, c7, hb 54 rfl, ho3.wide hz (Nat.le_refl _)⟩⟩
      · have hss : a'.tmps.getD 10 undef = .pointer (some ⟨w.heap.size + 1 + 1 + 1, 0, none⟩) := hsame 10 (by rfl)
        have zz : ∀ o, w'.cell? ⟨w.heap.size + 1 + 1 + 1, o, none⟩ = _ := fun o => (hC.cell (p := ⟨w.heap.size + 1 + 1 + 1, o, none⟩) (by show w.heap.size + 1 + 1 + 1 < v4.heap.size; omega)).trans (ceXC o)
        refine wp_val (w2 := w') (.agg #[.int .i64 pc.h, .int .i64 pc.r, .string pc.id, .slice D sg.length q]) (fun K hK => ?_) ⟨_, rfl, hC, Below.refl _ _, fun b hb _ => hb 55 rfl⟩
        clear hsame hdep
        unfold Oper.wp
        simp [execOp, Act.eval, hss, go_sem, zz]
        exact hK
      · have e1 : a'.tmps.getD 55 undef = .agg #[.int .i64 pc.h, .int .i64 pc.r, .string pc.id, .slice D sg.length q] := hdep ⟨8, .data⟩ (by simp) rfl
        have hrr := (((HS.out.below B4.out (Nat.le_refl _)).more B4.out.size).below hC (Nat.le_refl _)).more hz
        refine wp_call (fun u w2 => ∃ A2 c2, u = .agg #[.int .i64 pc.h, .int .i64 pc.r, .string pc.id, .slice A2 sg.length c2] ∧ OwnL csigC 2 91 w2 w'.heap.size w2.heap.size A2 sg.length c2 sg ∧ Below w'.heap.size w' w2) (fun K hK => ?_) ?_
        · clear hsame hdep
          unfold Oper.wp
          simp [Act.eval, e1, go_sem]
          refine (toCommit_any pc D _ q sg _ hrr (by omega)).mono ?_
          rintro e w3 ⟨A7, n7, c7, rfl, ho3, hb3⟩
          obtain rfl : sg.length = n7 := ho3.1
          exact hK _ _ ⟨A7, c7, rfl, ho3, hb3⟩
        · rintro u w3 ⟨A7, c7, rfl, ho3, hb3⟩
          exact ⟨_, rfl, hC.trans (hb3.mono hz), hb3, fun b hb _ => ⟨A7, c7, hb 56 rfl, ho3.wide hz (Nat.le_refl _)⟩⟩
      · have hss : a'.tmps.getD 5 undef = .int .i64 now := hsame 5 (by rfl)
        refine wp_val (w2 := w') (.int .i64 now) (fun K hK => ?_) ⟨_, rfl, hC, Below.refl _ _, fun b hb _ => hb 57 rfl⟩
        clear hsame hdep
        unfold Oper.wp
        simp [execOp, Act.eval, hss, go_sem]
        exact hK
      · have e1 : a'.tmps.getD 48 undef = .agg #[.int .i64 per, .int .i64 sl] := hdep ⟨1, .data⟩ (by simp) rfl
        have e3 : a'.tmps.getD 52 undef = .agg #[.int .i64 sh.h, .int .i64 sh.t, .string sh.last, .string sh.vals, .string sh.next, .string sh.data] := hdep ⟨5, .data⟩ (by simp) rfl
        have e6 : a'.tmps.getD 57 undef = .int .i64 now := hdep ⟨10, .data⟩ (by simp) rfl
        obtain ⟨A2, c2, e2, ho2⟩ := hdep ⟨3, .data⟩ (by simp) rfl
        obtain ⟨A4, c4, e4, ho4⟩ := hdep ⟨7, .data⟩ (by simp) rfl
        obtain ⟨A5, c5, e5, ho5⟩ := hdep ⟨9, .data⟩ (by simp) rfl
        refine wp_call (fun u w2 => ∃ A c, u = .tuple #[.agg #[.int .i64 rhd.h, .int .i64 rhd.t, .string rhd.last, .string rhd.vals, .string rhd.next, .string rhd.data, .slice A ls.length c], .int .i64 r] ∧ OwnL valC 2 84 w2 w'.heap.size w2.heap.size A ls.length c ls ∧ Below w'.heap.size w' w2) (fun K hK => ?_) ?_
        · clear hsame hdep
          unfold Oper.wp
          simp [Act.eval, e1, e2, e3, e4, e5, e6, go_sem]
          refine ((HSP _ A2 c2 A4 c4 A5 c5 (ho2.rd valC_len) (ho4.rd valC_len) (ho5.rd csigC_len) hAL hNL).out).mono ?_
          rintro e w3 ⟨A7, c7, rfl, ho3, hb3⟩
          exact hK _ _ ⟨A7, c7, rfl, ho3, hb3⟩
        · rintro u w3 ⟨A7, c7, rfl, ho3, hb3⟩
          exact ⟨_, rfl, hC.trans (hb3.mono hz), hb3, fun b hb _ => ⟨A7, c7, hb 58 rfl, ho3.wide hz (Nat.le_refl _)⟩⟩
      · obtain ⟨A7, c7, e1, hrr⟩ := hdep ⟨11, .data⟩ (by simp) rfl
        refine wp_val (w2 := w') (.tuple #[.agg #[.int .i64 rhd.h, .int .i64 rhd.t, .string rhd.last, .string rhd.vals, .string rhd.next, .string rhd.data, .slice A7 ls.length c7], .int .i64 r]) (fun K hK => ?_) ⟨_, rfl, hC, Below.refl _ _, fun b hb _ => ⟨A7, c7, hb 46 rfl, hrr⟩⟩
        clear hsame hdep hrr
        unfold Oper.wp
        simp [execOp, Act.eval, e1, go_sem]
        exact hK
      · obtain ⟨A7, c7, e1, hrr⟩ := hdep ⟨12, .data⟩ (by simp) rfl
        refine wp_val (w2 := w') (.agg #[.int .i64 rhd.h, .int .i64 rhd.t, .string rhd.last, .string rhd.vals, .string rhd.next, .string rhd.data, .slice A7 ls.length c7]) (fun K hK => ?_) ⟨_, rfl, hC, Below.refl _ _, fun b hb hb2 => ⟨A7, c7, (hb2 46 (by intro d h; cases h; decide)).trans e1, hb 59 rfl, hrr⟩⟩
        clear hsame hdep hrr
        unfold Oper.wp
        simp [execOp, Act.eval, e1, go_sem]
        exact hK
      · obtain ⟨A7, c7, e1, hrr⟩ := hdep ⟨12, .data⟩ (by simp) rfl
        refine wp_val (w2 := w') (.int .i64 r) (fun K hK => ?_) ⟨_, rfl, hC, Below.refl _ _, fun b hb hb2 => hb 60 rfl⟩
        clear hsame hdep hrr
        unfold Oper.wp
        simp [execOp, Act.eval, e1, go_sem]
        exact hK
      · refine wp_val (w2 := w'.alloc (.cells #[.int .i64 0, .int .i64 0, .string ⟨#[]⟩, .string ⟨#[]⟩, .string ⟨#[]⟩, .string ⟨#[]⟩, .slice none 0 0] 30)) (.pointer (some ⟨w'.heap.size, 0, none⟩)) (fun K hK => ?_) ⟨_, rfl, hC.alloc hz _, (Below.refl _ _).alloc (Nat.le_refl _) _, fun b hb _ => ⟨w'.heap.size, _, hb 14 rfl, hz, by rfl, heap_alloc_new w' _⟩⟩
        clear hsame hdep
        unfold Oper.wp
        simp [execOp, go_sem]
        exact hK
      · obtain ⟨q0, cs0, e1, hq0, hsz, hblk⟩ := hdep ⟨15, .data⟩ (by simp) rfl
        obtain ⟨A7, c7, e3, e2, hrr⟩ := hdep ⟨13, .data⟩ (by simp) rfl
        clear e3 hrr
        obtain ⟨lc⟩ := cs0
        obtain ⟨k0, k1, k2, k3, k4, k5, k6, rfl⟩ := list7 (l := lc) (by simpa using hsz)
        have f0 : w'.cell? ⟨q0, 0, none⟩ = some k0 := by rw [hblk.cell]; rfl
        have f1 : w'.cell? ⟨q0, 1, none⟩ = some k1 := by rw [hblk.cell]; rfl
        have f2 : w'.cell? ⟨q0, 2, none⟩ = some k2 := by rw [hblk.cell]; rfl
        have f3 : w'.cell? ⟨q0, 3, none⟩ = some k3 := by rw [hblk.cell]; rfl
        have f4 : w'.cell? ⟨q0, 4, none⟩ = some k4 := by rw [hblk.cell]; rfl
        have f5 : w'.cell? ⟨q0, 5, none⟩ = some k5 := by rw [hblk.cell]; rfl
        have f6 : w'.cell? ⟨q0, 6, none⟩ = some k6 := by rw [hblk.cell]; rfl
        have ff := hblk.frozen
        obtain ⟨w9, hw9⟩ : ∃ z, z = (((((((w'.setCell ⟨q0, 0, none⟩ (.int .i64 rhd.h)).setCell ⟨q0, 1, none⟩ (.int .i64 rhd.t)).setCell ⟨q0, 2, none⟩ (.string rhd.last)).setCell ⟨q0, 3, none⟩ (.string rhd.vals)).setCell ⟨q0, 4, none⟩ (.string rhd.next)).setCell ⟨q0, 5, none⟩ (.string rhd.data)).setCell ⟨q0, 6, none⟩ (.slice A7 ls.length c7)) := ⟨_, rfl⟩
        have hchg : Chg q0 (q0 + 1) w' w9 := by rw [hw9]; (repeat (first | with_reducible refine Chg.setCell ?_ (by first | exact Nat.le_refl _ | (simp; done) | (simp; omega)) (by first | (simp; done) | (simp; omega)) _ | with_reducible refine Chg.alloc ?_ _ | with_reducible refine Chg.drew ?_)); (with_reducible exact Chg.refl _ _ _)
        have hblk2 : Blk w9 q0 30 #[.int .i64 rhd.h, .int .i64 rhd.t, .string rhd.last, .string rhd.vals, .string rhd.next, .string rhd.data, .slice A7 ls.length c7] := by
          rw [hw9]
          have hb := (((((((hblk.set_ 0 (.int .i64 rhd.h)).set_ 1 (.int .i64 rhd.t)).set_ 2 (.string rhd.last)).set_ 3 (.string rhd.vals)).set_ 4 (.string rhd.next)).set_ 5 (.string rhd.data)).set_ 6 (.slice A7 ls.length c7))
          simp only [List.setIfInBounds_toArray, List.set_cons_zero, List.set_cons_succ] at hb
          exact hb
        have hturn := BoxTurn.of_blk hblk hblk2 rfl hchg
        have hcls := hC.trans (hchg.below hq0 hz)
        refine wp_val (w2 := w9) undef (fun K hK => ?_) ⟨_, rfl, hcls, hturn, fun b _ hb => ⟨q0, A7, c7, (hb 14 (by intro d h; cases h)).trans e1, (hb 59 (by intro d h; cases h)).trans e2, hq0, hblk2⟩⟩
        rw [hw9] at hK
        clear hsame hdep hchg hblk2 hturn hcls hw9
        unfold Oper.wp
        simp [execOp, Act.eval, e1, e2, go_sem, f0, f1, f2, f3, f4, f5, f6, ff]
        exact hK
    · intro a' w' hC ha hP
      obtain ⟨q0, A7, c7, e1, f1, hq0, hblk⟩ := hP 16 (by simp)
      obtain ⟨A8, c8, _, f2, hrr⟩ := hP 13 (by simp)
      have e4 : a'.tmps.getD 60 undef = .int .i64 r := hP 14 (by simp)
      clear hP
      have ex := f1.symm.trans f2
      simp only [Value.agg.injEq, Array.mk.injEq, List.cons.injEq, Value.slice.injEq, true_and, and_true] at ex
      obtain ⟨rfl, rfl⟩ := ex
      clear f2
      simp only [coreOps, List.filterMap_cons, List.filterMap_nil, List.getElem?_cons_zero, List.getElem?_cons_succ, fillA, slotOf, Act.put, e1, e4] at ha
      generalize a'.tmps.getD 47 undef = u47 at ha
      generalize a'.tmps.getD 48 undef = u48 at ha
      generalize a'.tmps.getD 49 undef = u49 at ha
      generalize a'.tmps.getD 50 undef = u50 at ha
      generalize a'.tmps.getD 51 undef = u51 at ha
      generalize a'.tmps.getD 52 undef = u52 at ha
      generalize a'.tmps.getD 53 undef = u53 at ha
      generalize a'.tmps.getD 54 undef = u54 at ha
      generalize a'.tmps.getD 55 undef = u55 at ha
      generalize a'.tmps.getD 56 undef = u56 at ha
      generalize a'.tmps.getD 57 undef = u57 at ha
      generalize a'.tmps.getD 58 undef = u58 at ha
      generalize a'.tmps.getD 46 undef = u46 at ha
      rw [f1] at ha
      subst ha
      show wpAny _ _ _ _ 1 _ _ _
      refine wpAny_ready (rs := [17]) (by kernel_rfl) (by simp) ?_
      refine AllReady.cons rfl (fun K hK => ?_) AllReady.nil
      go_simp
      refine hK _ _ ?_
      clear hK K
      refine wpAny_done (by kernel_rfl) ?_ _
      go_wp2_with fail
      go_meet
      obtain ⟨ga, gb, o3, b1, b2, b3, b4⟩ := hrr.apart hblk (by decide) hC.size
      exact ⟨q0, A7, c7, ga, gb, rfl, rfl, hq0, hblk, o3, b1, b2, b3, b4, hC⟩
  case rest =>
  obtain ⟨qa, Aa, ca, gaa, gba, rfl, rfl, hqa, hblk, ho, g1a, g2a, g3a, g4a, hb⟩ := hcut
  obtain ⟨v5, hwv⟩ : ∃ z, z = wc := ⟨_, rfl⟩
  subst hwv
  clear ceXT lbXT ceXA lbXA ceXH lbXH ceXC lbXC
  have hs5 := hb.size
  have XT5 := Lib.hid (XT4.out.below hb XT4.out.lt)
  have XA5 := Lib.hid (XA4.out.below hb XA4.out.lt)
  have XH5 := Lib.hid (XH4.out.below hb XH4.out.lt)
  have XC5 := Lib.hid (XC4.out.below hb XC4.out.lt)
  have B5 := Lib.hid (B4.out.trans (hb.mono B4.out.size))
  clear hb XT4 XA4 XH4 XC4 B4
  have XWa5 := Lib.hid hblk
  have OWa5 := Lib.hid ho
  have ltWa := hblk.lt
  clear hblk ho
  have ceXT := XT5.out.cell
  have lbXT := XT5.out.lt
  have ceXA := XA5.out.cell
  have lbXA := XA5.out.lt
  have ceXH := XH5.out.cell
  have lbXH := XH5.out.lt
  have ceXC := XC5.out.cell
  have lbXC := XC5.out.lt
  go_wp2_with fail
  refine (toAnchor_any sa A _ c al _ ((HA.out.below B5.out (Nat.le_refl _)).more B5.out.size) hAL).mono ?_
  rintro e v6 ⟨Ax, nx, cx, rfl, ho, hb⟩
  obtain rfl : al.length = nx := ho.1
  have HO := Lib.hid ho
  clear ho
  clear ceXT lbXT ceXA lbXA ceXH lbXH ceXC lbXC
  have hs6 := hb.size
  have XT6 := Lib.hid (XT5.out.below hb XT5.out.lt)
  have XA6 := Lib.hid (XA5.out.below hb XA5.out.lt)
  have XH6 := Lib.hid (XH5.out.below hb XH5.out.lt)
  have XC6 := Lib.hid (XC5.out.below hb XC5.out.lt)
  have B6 := Lib.hid (B5.out.trans (hb.mono B5.out.size))
  have XWa6 := Lib.hid (XWa5.out.below hb XWa5.out.lt)
  have OWa6 := Lib.hid (OWa5.out.below hb (by omega))
  clear hb XT5 XA5 XH5 XC5 B5 XWa5 OWa5
  have OX6 := HO
  clear HO
  go_upto_region 16 with fail
  obtain ⟨v7, hnw⟩ : ∃ zq, zq = v6.alloc (.cells #[.int .i64 sa.h, .int .i64 sa.t, .string sa.last, .string sa.vals, .string sa.next, .string sa.data, .slice Ax al.length cx] 30) := ⟨_, rfl⟩
  rw [← hnw]
  have hb : Below v6.heap.size v6 v7 := by rw [hnw]; exact (Below.refl _ _).alloc (Nat.le_refl _) _
  have hxx : Blk v7 v6.heap.size 30 #[.int .i64 sa.h, .int .i64 sa.t, .string sa.last, .string sa.vals, .string sa.next, .string sa.data, .slice Ax al.length cx] := by rw [hnw]; exact heap_alloc_new v6 _
  clear hnw
  have hs7 := hb.size
  have XT7 := Lib.hid (XT6.out.below hb XT6.out.lt)
  have XA7 := Lib.hid (XA6.out.below hb XA6.out.lt)
  have XH7 := Lib.hid (XH6.out.below hb XH6.out.lt)
  have XC7 := Lib.hid (XC6.out.below hb XC6.out.lt)
  have B7 := Lib.hid (B6.out.trans (hb.mono B6.out.size))
  have XWa7 := Lib.hid (XWa6.out.below hb XWa6.out.lt)
  have OWa7 := Lib.hid (OWa6.out.below hb (by omega))
  have OX7 := Lib.hid (OX6.out.below hb (by omega))
  clear hb XT6 XA6 XH6 XC6 B6 XWa6 OWa6 OX6
  have XX7 := Lib.hid hxx
  have ltXX := hxx.lt
  clear hxx
  have ceXT := XT7.out.cell
  have lbXT := XT7.out.lt
  have ceXA := XA7.out.cell
  have lbXA := XA7.out.lt
  have ceXH := XH7.out.cell
  have lbXH := XH7.out.lt
  have ceXC := XC7.out.cell
  have lbXC := XC7.out.lt
  go_wp2_with fail
  refine (toValS_own B _ d nl _ ((HN.out.below B7.out (Nat.le_refl _)).more B7.out.size) hNL).mono ?_
  rintro e v8 ⟨Ay, cy, rfl, ho, hb⟩
  have HO := Lib.hid ho
  clear ho
  clear ceXT lbXT ceXA lbXA ceXH lbXH ceXC lbXC
  have hs8 := hb.size
  have XT8 := Lib.hid (XT7.out.below hb XT7.out.lt)
  have XA8 := Lib.hid (XA7.out.below hb XA7.out.lt)
  have XH8 := Lib.hid (XH7.out.below hb XH7.out.lt)
  have XC8 := Lib.hid (XC7.out.below hb XC7.out.lt)
  have B8 := Lib.hid (B7.out.trans (hb.mono B7.out.size))
  have XWa8 := Lib.hid (XWa7.out.below hb XWa7.out.lt)
  have OWa8 := Lib.hid (OWa7.out.below hb (by omega))
  have OX8 := Lib.hid (OX7.out.below hb (by omega))
  have XX8 := Lib.hid (XX7.out.below hb XX7.out.lt)
  clear hb XT7 XA7 XH7 XC7 B7 XWa7 OWa7 OX7 XX7
  have OY8 := HO
  clear HO
  have ceXT := XT8.out.cell
  have lbXT := XT8.out.lt
  have ceXA := XA8.out.cell
  have lbXA := XA8.out.lt
  have ceXH := XH8.out.cell
  have lbXH := XH8.out.lt
  have ceXC := XC8.out.cell
  have lbXC := XC8.out.lt
  go_wp2_with fail
  refine (toCommit_any pc D _ q sg _ ((HS.out.below B8.out (Nat.le_refl _)).more B8.out.size) hSL).mono ?_
  rintro e v9 ⟨Az, nz, cz, rfl, ho, hb⟩
  obtain rfl : sg.length = nz := ho.1
  have HO := Lib.hid ho
  clear ho
  clear ceXT lbXT ceXA lbXA ceXH lbXH ceXC lbXC
  have hs9 := hb.size
  have XT9 := Lib.hid (XT8.out.below hb XT8.out.lt)
  have XA9 := Lib.hid (XA8.out.below hb XA8.out.lt)
  have XH9 := Lib.hid (XH8.out.below hb XH8.out.lt)
  have XC9 := Lib.hid (XC8.out.below hb XC8.out.lt)
  have B9 := Lib.hid (B8.out.trans (hb.mono B8.out.size))
  have XWa9 := Lib.hid (XWa8.out.below hb XWa8.out.lt)
  have OWa9 := Lib.hid (OWa8.out.below hb (by omega))
  have OX9 := Lib.hid (OX8.out.below hb (by omega))
  have XX9 := Lib.hid (XX8.out.below hb XX8.out.lt)
  have OY9 := Lib.hid (OY8.out.below hb (by omega))
  clear hb XT8 XA8 XH8 XC8 B8 XWa8 OWa8 OX8 XX8 OY8
  have OZ9 := HO
  clear HO
  go_upto_region 18 with fail
  obtain ⟨v10, hnw⟩ : ∃ zq, zq = v9.alloc (.cells #[.int .i64 pc.h, .int .i64 pc.r, .string pc.id, .slice Az sg.length cz] 33) := ⟨_, rfl⟩
  rw [← hnw]
  have hb : Below v9.heap.size v9 v10 := by rw [hnw]; exact (Below.refl _ _).alloc (Nat.le_refl _) _
  have hxx : Blk v10 v9.heap.size 33 #[.int .i64 pc.h, .int .i64 pc.r, .string pc.id, .slice Az sg.length cz] := by rw [hnw]; exact heap_alloc_new v9 _
  clear hnw
  have hs10 := hb.size
  have XT10 := Lib.hid (XT9.out.below hb XT9.out.lt)
  have XA10 := Lib.hid (XA9.out.below hb XA9.out.lt)
  have XH10 := Lib.hid (XH9.out.below hb XH9.out.lt)
  have XC10 := Lib.hid (XC9.out.below hb XC9.out.lt)
  have B10 := Lib.hid (B9.out.trans (hb.mono B9.out.size))
  have XWa10 := Lib.hid (XWa9.out.below hb XWa9.out.lt)
  have OWa10 := Lib.hid (OWa9.out.below hb (by omega))
  have OX10 := Lib.hid (OX9.out.below hb (by omega))
  have XX10 := Lib.hid (XX9.out.below hb XX9.out.lt)
  have OY10 := Lib.hid (OY9.out.below hb (by omega))
  have OZ10 := Lib.hid (OZ9.out.below hb (by omega))
  clear hb XT9 XA9 XH9 XC9 B9 XWa9 OWa9 OX9 XX9 OY9 OZ9
  have XY10 := Lib.hid hxx
  have ltXY := hxx.lt
  clear hxx
  go_upto_region 18 with fail
  have ceXT := XT10.out.cell
  have lbXT := XT10.out.lt
  have ceXA := XA10.out.cell
  have lbXA := XA10.out.lt
  have ceXH := XH10.out.cell
  have lbXH := XH10.out.lt
  have ceXC := XC10.out.cell
  have lbXC := XC10.out.lt
  have ceXX := XX10.out.cell
  have lbXX := XX10.out.lt
  have ceXY := XY10.out.cell
  have lbXY := XY10.out.lt
  go_cut [19, 20] (fun sp sk wx => ∃ qq A c ga gb, sp = .pointer (some ⟨qq, 0, none⟩) ∧ sk = .int .i64 r ∧ v10.heap.size ≤ qq ∧ Blk wx qq 30 #[.int .i64 rhd.h, .int .i64 rhd.t, .string rhd.last, .string rhd.vals, .string rhd.next, .string rhd.data, .slice A ls.length c] ∧ OwnL valC 2 84 wx ga gb A ls.length c ls ∧ v10.heap.size ≤ ga ∧ ga ≤ gb ∧ gb ≤ wx.heap.size ∧ (qq < ga ∨ gb ≤ qq) ∧ Below v10.heap.size v10 wx)
  case first =>
    refine wp_region_core [0, 1, 2, 3, 4, 5, 6, 7, 8, 9, 10, 11, 12, 13] (Below v10.heap.size v10) (fun j wa wb => match j with | 13 => BoxTurn 30 wa wb | _ => Below wa.heap.size wa wb) (fun i b w => match i with
      | 0 => b.tmps.getD 68 undef = .agg #[.int .i64 per, .int .i64 sl]
      | 1 => b.tmps.getD 69 undef = .agg #[.int .i64 per, .int .i64 sl]
      | 2 => b.tmps.getD 70 undef = .agg #[.int .i64 sa.h, .int .i64 sa.t, .string sa.last, .string sa.vals, .string sa.next, .string sa.data, .slice Ax al.length cx]
      | 3 => b.tmps.getD 71 undef = .agg #[.int .i64 sh.h, .int .i64 sh.t, .string sh.last, .string sh.vals, .string sh.next, .string sh.data]
      | 4 => b.tmps.getD 72 undef = .agg #[.int .i64 sh.h, .int .i64 sh.t, .string sh.last, .string sh.vals, .string sh.next, .string sh.data]
      | 5 => b.tmps.getD 73 undef = .slice Ay nl.length cy
      | 6 => b.tmps.getD 74 undef = .agg #[.int .i64 pc.h, .int .i64 pc.r, .string pc.id, .slice Az sg.length cz]
      | 7 => b.tmps.getD 75 undef = .int .i64 now
      | 8 => ∃ A c, b.tmps.getD 76 undef = .tuple #[.agg #[.int .i64 rhd.h, .int .i64 rhd.t, .string rhd.last, .string rhd.vals, .string rhd.next, .string rhd.data, .slice A ls.length c], .int .i64 r] ∧ OwnL valC 2 84 w v10.heap.size w.heap.size A ls.length c ls
      | 9 => ∃ A c, b.tmps.getD 67 undef = .tuple #[.agg #[.int .i64 rhd.h, .int .i64 rhd.t, .string rhd.last, .string rhd.vals, .string rhd.next, .string rhd.data, .slice A ls.length c], .int .i64 r] ∧ OwnL valC 2 84 w v10.heap.size w.heap.size A ls.length c ls
      | 10 => ∃ A c, b.tmps.getD 67 undef = .tuple #[.agg #[.int .i64 rhd.h, .int .i64 rhd.t, .string rhd.last, .string rhd.vals, .string rhd.next, .string rhd.data, .slice A ls.length c], .int .i64 r] ∧ b.tmps.getD 77 undef = .agg #[.int .i64 rhd.h, .int .i64 rhd.t, .string rhd.last, .string rhd.vals, .string rhd.next, .string rhd.data, .slice A ls.length c] ∧ OwnL valC 2 84 w v10.heap.size w.heap.size A ls.length c ls
      | 11 => b.tmps.getD 78 undef = .int .i64 r
      | 12 => ∃ qq cs, b.tmps.getD 19 undef = .pointer (some ⟨qq, 0, none⟩) ∧ v10.heap.size ≤ qq ∧ cs.size = 7 ∧ Blk w qq 30 cs
      | 13 => ∃ qq A c, b.tmps.getD 19 undef = .pointer (some ⟨qq, 0, none⟩) ∧ b.tmps.getD 77 undef = .agg #[.int .i64 rhd.h, .int .i64 rhd.t, .string rhd.last, .string rhd.vals, .string rhd.next, .string rhd.data, .slice A ls.length c] ∧ v10.heap.size ≤ qq ∧ Blk w qq 30 #[.int .i64 rhd.h, .int .i64 rhd.t, .string rhd.last, .string rhd.vals, .string rhd.next, .string rhd.data, .slice A ls.length c]
      | _ => True) (by kernel_rfl) (by kernel_rfl) ((Below.refl _ _).drew) ?_ ?_ ?_
    · intro b wa wb i j oj v hi hj hij hoj hdep hE h
      simp only [List.mem_cons, List.not_mem_nil, or_false] at hi hj
      rcases hj with rfl | rfl | rfl | rfl | rfl | rfl | rfl | rfl | rfl | rfl | rfl | rfl | rfl | rfl
      all_goals obtain rfl := Option.some.inj hoj
      · rcases hi with rfl | rfl | rfl | rfl | rfl | rfl | rfl | rfl | rfl | rfl | rfl | rfl | rfl | rfl
        all_goals first | exact absurd rfl hij | (simp only at hE h ⊢; first | exact getkV h (by decide) | (obtain ⟨A, c, e, h⟩ := h; first | exact ⟨A, c, getkV e (by decide), (h.below hE (Nat.le_refl _)).wide (Nat.le_refl _) hE.size⟩ | exact ⟨A, c, getkV e (by decide), hE.row (by decide) h⟩ | (obtain ⟨e2, h⟩ := h; first | exact ⟨A, c, getkV e (by decide), getkV e2 (by decide), (h.below hE (Nat.le_refl _)).wide (Nat.le_refl _) hE.size⟩ | exact ⟨A, c, getkV e (by decide), getkV e2 (by decide), hE.row (by decide) h⟩ | (obtain ⟨h3, h4⟩ := h; first | exact ⟨A, c, getkV e (by decide), e2, h3, h4.below hE h4.lt⟩ | (obtain ⟨c', h5, h6⟩ := hE.box h4; exact ⟨A, c', getkV e (by decide), e2, h5.trans h3, h6⟩)))) | (obtain ⟨qq, A, c, e, e2, h3, h4⟩ := h; exact ⟨qq, A, c, getkV e (by decide), getkV e2 (by decide), h3, h4.below hE h4.lt⟩)) | exact absurd rfl (hdep _ rfl ⟨0, .data⟩ (by simp) rfl)
      · rcases hi with rfl | rfl | rfl | rfl | rfl | rfl | rfl | rfl | rfl | rfl | rfl | rfl | rfl | rfl
        all_goals first | exact absurd rfl hij | (simp only at hE h ⊢; first | exact getkV h (by decide) | (obtain ⟨A, c, e, h⟩ := h; first | exact ⟨A, c, getkV e (by decide), (h.below hE (Nat.le_refl _)).wide (Nat.le_refl _) hE.size⟩ | exact ⟨A, c, getkV e (by decide), hE.row (by decide) h⟩ | (obtain ⟨e2, h⟩ := h; first | exact ⟨A, c, getkV e (by decide), getkV e2 (by decide), (h.below hE (Nat.le_refl _)).wide (Nat.le_refl _) hE.size⟩ | exact ⟨A, c, getkV e (by decide), getkV e2 (by decide), hE.row (by decide) h⟩ | (obtain ⟨h3, h4⟩ := h; first | exact ⟨A, c, getkV e (by decide), e2, h3, h4.below hE h4.lt⟩ | (obtain ⟨c', h5, h6⟩ := hE.box h4; exact ⟨A, c', getkV e (by decide), e2, h5.trans h3, h6⟩)))) | (obtain ⟨qq, A, c, e, e2, h3, h4⟩ := h; exact ⟨qq, A, c, getkV e (by decide), getkV e2 (by decide), h3, h4.below hE h4.lt⟩)) | exact absurd rfl (hdep _ rfl ⟨1, .data⟩ (by simp) rfl)
      · rcases hi with rfl | rfl | rfl | rfl | rfl | rfl | rfl | rfl | rfl | rfl | rfl | rfl | rfl | rfl
        all_goals first | exact absurd rfl hij | (simp only at hE h ⊢; first | exact getkV h (by decide) | (obtain ⟨A, c, e, h⟩ := h; first | exact ⟨A, c, getkV e (by decide), (h.below hE (Nat.le_refl _)).wide (Nat.le_refl _) hE.size⟩ | exact ⟨A, c, getkV e (by decide), hE.row (by decide) h⟩ | (obtain ⟨e2, h⟩ := h; first | exact ⟨A, c, getkV e (by decide), getkV e2 (by decide), (h.below hE (Nat.le_refl _)).wide (Nat.le_refl _) hE.size⟩ | exact ⟨A, c, getkV e (by decide), getkV e2 (by decide), hE.row (by decide) h⟩ | (obtain ⟨h3, h4⟩ := h; first | exact ⟨A, c, getkV e (by decide), e2, h3, h4.below hE h4.lt⟩ | (obtain ⟨c', h5, h6⟩ := hE.box h4; exact ⟨A, c', getkV e (by decide), e2, h5.trans h3, h6⟩)))) | (obtain ⟨qq, A, c, e, e2, h3, h4⟩ := h; exact ⟨qq, A, c, getkV e (by decide), getkV e2 (by decide), h3, h4.below hE h4.lt⟩)) | exact absurd rfl (hdep _ rfl ⟨2, .data⟩ (by simp) rfl)
      · rcases hi with rfl | rfl | rfl | rfl | rfl | rfl | rfl | rfl | rfl | rfl | rfl | rfl | rfl | rfl
        all_goals first | exact absurd rfl hij | (simp only at hE h ⊢; first | exact getkV h (by decide) | (obtain ⟨A, c, e, h⟩ := h; first | exact ⟨A, c, getkV e (by decide), (h.below hE (Nat.le_refl _)).wide (Nat.le_refl _) hE.size⟩ | exact ⟨A, c, getkV e (by decide), hE.row (by decide) h⟩ | (obtain ⟨e2, h⟩ := h; first | exact ⟨A, c, getkV e (by decide), getkV e2 (by decide), (h.below hE (Nat.le_refl _)).wide (Nat.le_refl _) hE.size⟩ | exact ⟨A, c, getkV e (by decide), getkV e2 (by decide), hE.row (by decide) h⟩ | (obtain ⟨h3, h4⟩ := h; first | exact ⟨A, c, getkV e (by decide), e2, h3, h4.below hE h4.lt⟩ | (obtain ⟨c', h5, h6⟩ := hE.box h4; exact ⟨A, c', getkV e (by decide), e2, h5.trans h3, h6⟩)))) | (obtain ⟨qq, A, c, e, e2, h3, h4⟩ := h; exact ⟨qq, A, c, getkV e (by decide), getkV e2 (by decide), h3, h4.below hE h4.lt⟩)) | exact absurd rfl (hdep _ rfl ⟨3, .data⟩ (by simp) rfl)
      · rcases hi with rfl | rfl | rfl | rfl | rfl | rfl | rfl | rfl | rfl | rfl | rfl | rfl | rfl | rfl
        all_goals first | exact absurd rfl hij | (simp only at hE h ⊢; first | exact getkV h (by decide) | (obtain ⟨A, c, e, h⟩ := h; first | exact ⟨A, c, getkV e (by decide), (h.below hE (Nat.le_refl _)).wide (Nat.le_refl _) hE.size⟩ | exact ⟨A, c, getkV e (by decide), hE.row (by decide) h⟩ | (obtain ⟨e2, h⟩ := h; first | exact ⟨A, c, getkV e (by decide), getkV e2 (by decide), (h.below hE (Nat.le_refl _)).wide (Nat.le_refl _) hE.size⟩ | exact ⟨A, c, getkV e (by decide), getkV e2 (by decide), hE.row (by decide) h⟩ | (obtain ⟨h3, h4⟩ := h; first | exact ⟨A, c, getkV e (by decide), e2, h3, h4.below hE h4.lt⟩ | (obtain ⟨c', h5, h6⟩ := hE.box h4; exact ⟨A, c', getkV e (by decide), e2, h5.trans h3, h6⟩)))) | (obtain ⟨qq, A, c, e, e2, h3, h4⟩ := h; exact ⟨qq, A, c, getkV e (by decide), getkV e2 (by decide), h3, h4.below hE h4.lt⟩)) | exact absurd rfl (hdep _ rfl ⟨4, .data⟩ (by simp) rfl)
      · rcases hi with rfl | rfl | rfl | rfl | rfl | rfl | rfl | rfl | rfl | rfl | rfl | rfl | rfl | rfl
        all_goals first | exact absurd rfl hij | (simp only at hE h ⊢; first | exact getkV h (by decide) | (obtain ⟨A, c, e, h⟩ := h; first | exact ⟨A, c, getkV e (by decide), (h.below hE (Nat.le_refl _)).wide (Nat.le_refl _) hE.size⟩ | exact ⟨A, c, getkV e (by decide), hE.row (by decide) h⟩ | (obtain ⟨e2, h⟩ := h; first | exact ⟨A, c, getkV e (by decide), getkV e2 (by decide), (h.below hE (Nat.le_refl _)).wide (Nat.le_refl _) hE.size⟩ | exact ⟨A, c, getkV e (by decide), getkV e2 (by decide), hE.row (by decide) h⟩ | (obtain ⟨h3, h4⟩ := h; first | exact ⟨A, c, getkV e (by decide), e2, h3, h4.below hE h4.lt⟩ | (obtain ⟨c', h5, h6⟩ := hE.box h4; exact ⟨A, c', getkV e (by decide), e2, h5.trans h3, h6⟩)))) | (obtain ⟨qq, A, c, e, e2, h3, h4⟩ := h; exact ⟨qq, A, c, getkV e (by decide), getkV e2 (by decide), h3, h4.below hE h4.lt⟩)) | exact absurd rfl (hdep _ rfl ⟨5, .data⟩ (by simp) rfl)
      · rcases hi with rfl | rfl | rfl | rfl | rfl | rfl | rfl | rfl | rfl | rfl | rfl | rfl | rfl | rfl
        all_goals first | exact absurd rfl hij | (simp only at hE h ⊢; first | exact getkV h (by decide) | (obtain ⟨A, c, e, h⟩ := h; first | exact ⟨A, c, getkV e (by decide), (h.below hE (Nat.le_refl _)).wide (Nat.le_refl _) hE.size⟩ | exact ⟨A, c, getkV e (by decide), hE.row (by decide) h⟩ | (obtain ⟨e2, h⟩ := h; first | exact ⟨A, c, getkV e (by decide), getkV e2 (by decide), (h.below hE (Nat.le_refl _)).wide (Nat.le_refl _) hE.size⟩ | exact ⟨A, c, getkV e (by decide), getkV e2 (by decide), hE.row (by decide) h⟩ | (obtain ⟨h3, h4⟩ := h; first | exact ⟨A, c, getkV e (by decide), e2, h3, h4.below hE h4.lt⟩ | (obtain ⟨c', h5, h6⟩ := hE.box h4; exact ⟨A, c', getkV e (by decide), e2, h5.trans h3, h6⟩)))) | (obtain ⟨qq, A, c, e, e2, h3, h4⟩ := h; exact ⟨qq, A, c, getkV e (by decide), getkV e2 (by decide), h3, h4.below hE h4.lt⟩)) | exact absurd rfl (hdep _ rfl ⟨6, .data⟩ (by simp) rfl)
      · rcases hi with rfl | rfl | rfl | rfl | rfl | rfl | rfl | rfl | rfl | rfl | rfl | rfl | rfl | rfl
        all_goals first | exact absurd rfl hij | (simp only at hE h ⊢; first | exact getkV h (by decide) | (obtain ⟨A, c, e, h⟩ := h; first | exact ⟨A, c, getkV e (by decide), (h.below hE (Nat.le_refl _)).wide (Nat.le_refl _) hE.size⟩ | exact ⟨A, c, getkV e (by decide), hE.row (by decide) h⟩ | (obtain ⟨e2, h⟩ := h; first | exact ⟨A, c, getkV e (by decide), getkV e2 (by decide), (h.below hE (Nat.le_refl _)).wide (Nat.le_refl _) hE.size⟩ | exact ⟨A, c, getkV e (by decide), getkV e2 (by decide), hE.row (by decide) h⟩ | (obtain ⟨h3, h4⟩ := h; first | exact ⟨A, c, getkV e (by decide), e2, h3, h4.below hE h4.lt⟩ | (obtain ⟨c', h5, h6⟩ := hE.box h4; exact ⟨A, c', getkV e (by decide), e2, h5.trans h3, h6⟩)))) | (obtain ⟨qq, A, c, e, e2, h3, h4⟩ := h; exact ⟨qq, A, c, getkV e (by decide), getkV e2 (by decide), h3, h4.below hE h4.lt⟩)) | exact absurd rfl (hdep _ rfl ⟨7, .data⟩ (by simp) rfl)
      · rcases hi with rfl | rfl | rfl | rfl | rfl | rfl | rfl | rfl | rfl | rfl | rfl | rfl | rfl | rfl
        all_goals first | exact absurd rfl hij | (simp only at hE h ⊢; first | exact getkV h (by decide) | (obtain ⟨A, c, e, h⟩ := h; first | exact ⟨A, c, getkV e (by decide), (h.below hE (Nat.le_refl _)).wide (Nat.le_refl _) hE.size⟩ | exact ⟨A, c, getkV e (by decide), hE.row (by decide) h⟩ | (obtain ⟨e2, h⟩ := h; first | exact ⟨A, c, getkV e (by decide), getkV e2 (by decide), (h.below hE (Nat.le_refl _)).wide (Nat.le_refl _) hE.size⟩ | exact ⟨A, c, getkV e (by decide), getkV e2 (by decide), hE.row (by decide) h⟩ | (obtain ⟨h3, h4⟩ := h; first | exact ⟨A, c, getkV e (by decide), e2, h3, h4.below hE h4.lt⟩ | (obtain ⟨c', h5, h6⟩ := hE.box h4; exact ⟨A, c', getkV e (by decide), e2, h5.trans h3, h6⟩)))) | (obtain ⟨qq, A, c, e, e2, h3, h4⟩ := h; exact ⟨qq, A, c, getkV e (by decide), getkV e2 (by decide), h3, h4.below hE h4.lt⟩)) | exact absurd rfl (hdep _ rfl ⟨8, .data⟩ (by simp) rfl)
      · rcases hi with rfl | rfl | rfl | rfl | rfl | rfl | rfl | rfl | rfl | rfl | rfl | rfl | rfl | rfl
        all_goals first | exact absurd rfl hij | (simp only at hE h ⊢; first | exact getkV h (by decide) | (obtain ⟨A, c, e, h⟩ := h; first | exact ⟨A, c, getkV e (by decide), (h.below hE (Nat.le_refl _)).wide (Nat.le_refl _) hE.size⟩ | exact ⟨A, c, getkV e (by decide), hE.row (by decide) h⟩ | (obtain ⟨e2, h⟩ := h; first | exact ⟨A, c, getkV e (by decide), getkV e2 (by decide), (h.below hE (Nat.le_refl _)).wide (Nat.le_refl _) hE.size⟩ | exact ⟨A, c, getkV e (by decide), getkV e2 (by decide), hE.row (by decide) h⟩ | (obtain ⟨h3, h4⟩ := h; first | exact ⟨A, c, getkV e (by decide), e2, h3, h4.below hE h4.lt⟩ | (obtain ⟨c', h5, h6⟩ := hE.box h4; exact ⟨A, c', getkV e (by decide), e2, h5.trans h3, h6⟩)))) | (obtain ⟨qq, A, c, e, e2, h3, h4⟩ := h; exact ⟨qq, A, c, getkV e (by decide), getkV e2 (by decide), h3, h4.below hE h4.lt⟩)) | exact absurd rfl (hdep _ rfl ⟨9, .data⟩ (by simp) rfl)
      · rcases hi with rfl | rfl | rfl | rfl | rfl | rfl | rfl | rfl | rfl | rfl | rfl | rfl | rfl | rfl
        all_goals first | exact absurd rfl hij | (simp only at hE h ⊢; first | exact getkV h (by decide) | (obtain ⟨A, c, e, h⟩ := h; first | exact ⟨A, c, getkV e (by decide), (h.below hE (Nat.le_refl _)).wide (Nat.le_refl _) hE.size⟩ | exact ⟨A, c, getkV e (by decide), hE.row (by decide) h⟩ | (obtain ⟨e2, h⟩ := h; first | exact ⟨A, c, getkV e (by decide), getkV e2 (by decide), (h.below hE (Nat.le_refl _)).wide (Nat.le_refl _) hE.size⟩ | exact ⟨A, c, getkV e (by decide), getkV e2 (by decide), hE.row (by decide) h⟩ | (obtain ⟨h3, h4⟩ := h; first | exact ⟨A, c, getkV e (by decide), e2, h3, h4.below hE h4.lt⟩ | (obtain ⟨c', h5, h6⟩ := hE.box h4; exact ⟨A, c', getkV e (by decide), e2, h5.trans h3, h6⟩)))) | (obtain ⟨qq, A, c, e, e2, h3, h4⟩ := h; exact ⟨qq, A, c, getkV e (by decide), getkV e2 (by decide), h3, h4.below hE h4.lt⟩)) | exact absurd rfl (hdep _ rfl ⟨10, .data⟩ (by simp) rfl)
      · rcases hi with rfl | rfl | rfl | rfl | rfl | rfl | rfl | rfl | rfl | rfl | rfl | rfl | rfl | rfl
        all_goals first | exact absurd rfl hij | (simp only at hE h ⊢; first | exact getkV h (by decide) | (obtain ⟨A, c, e, h⟩ := h; first | exact ⟨A, c, getkV e (by decide), (h.below hE (Nat.le_refl _)).wide (Nat.le_refl _) hE.size⟩ | exact ⟨A, c, getkV e (by decide), hE.row (by decide) h⟩ | (obtain ⟨e2, h⟩ := h; first | exact ⟨A, c, getkV e (by decide), getkV e2 (by decide), (h.below hE (Nat.le_refl _)).wide (Nat.le_refl _) hE.size⟩ | exact ⟨A, c, getkV e (by decide), getkV e2 (by decide), hE.row (by decide) h⟩ | (obtain ⟨h3, h4⟩ := h; first | exact ⟨A, c, getkV e (by decide), e2, h3, h4.below hE h4.lt⟩ | (obtain ⟨c', h5, h6⟩ := hE.box h4; exact ⟨A, c', getkV e (by decide), e2, h5.trans h3, h6⟩)))) | (obtain ⟨qq, A, c, e, e2, h3, h4⟩ := h; exact ⟨qq, A, c, getkV e (by decide), getkV e2 (by decide), h3, h4.below hE h4.lt⟩)) | exact absurd rfl (hdep _ rfl ⟨11, .data⟩ (by simp) rfl)
      · rcases hi with rfl | rfl | rfl | rfl | rfl | rfl | rfl | rfl | rfl | rfl | rfl | rfl | rfl | rfl
        all_goals first | exact absurd rfl hij | (simp only at hE h ⊢; first | exact getkV h (by decide) | (obtain ⟨A, c, e, h⟩ := h; first | exact ⟨A, c, getkV e (by decide), (h.below hE (Nat.le_refl _)).wide (Nat.le_refl _) hE.size⟩ | exact ⟨A, c, getkV e (by decide), hE.row (by decide) h⟩ | (obtain ⟨e2, h⟩ := h; first | exact ⟨A, c, getkV e (by decide), getkV e2 (by decide), (h.below hE (Nat.le_refl _)).wide (Nat.le_refl _) hE.size⟩ | exact ⟨A, c, getkV e (by decide), getkV e2 (by decide), hE.row (by decide) h⟩ | (obtain ⟨h3, h4⟩ := h; first | exact ⟨A, c, getkV e (by decide), e2, h3, h4.below hE h4.lt⟩ | (obtain ⟨c', h5, h6⟩ := hE.box h4; exact ⟨A, c', getkV e (by decide), e2, h5.trans h3, h6⟩)))) | (obtain ⟨qq, A, c, e, e2, h3, h4⟩ := h; exact ⟨qq, A, c, getkV e (by decide), getkV e2 (by decide), h3, h4.below hE h4.lt⟩)) | exact absurd rfl (hdep _ rfl ⟨12, .data⟩ (by simp) rfl)
      · rcases hi with rfl | rfl | rfl | rfl | rfl | rfl | rfl | rfl | rfl | rfl | rfl | rfl | rfl | rfl
        all_goals first | exact absurd rfl hij | (simp only at hE h ⊢; first | exact getkV h (by decide) | (obtain ⟨A, c, e, h⟩ := h; first | exact ⟨A, c, getkV e (by decide), (h.below hE (Nat.le_refl _)).wide (Nat.le_refl _) hE.size⟩ | exact ⟨A, c, getkV e (by decide), hE.row (by decide) h⟩ | (obtain ⟨e2, h⟩ := h; first | exact ⟨A, c, getkV e (by decide), getkV e2 (by decide), (h.below hE (Nat.le_refl _)).wide (Nat.le_refl _) hE.size⟩ | exact ⟨A, c, getkV e (by decide), getkV e2 (by decide), hE.row (by decide) h⟩ | (obtain ⟨h3, h4⟩ := h; first | exact ⟨A, c, getkV e (by decide), e2, h3, h4.below hE h4.lt⟩ | (obtain ⟨c', h5, h6⟩ := hE.box h4; exact ⟨A, c', getkV e (by decide), e2, h5.trans h3, h6⟩)))) | (obtain ⟨qq, A, c, e, e2, h3, h4⟩ := h; exact ⟨qq, A, c, getkV e (by decide), getkV e2 (by decide), h3, h4.below hE h4.lt⟩)) | exact absurd rfl (hdep _ rfl ⟨13, .data⟩ (by simp) rfl)
    · intro j o hj ho a' w' hC hsame hdep
      have hz : v10.heap.size ≤ w'.heap.size := hC.size
      simp only [List.mem_cons, List.not_mem_nil, or_false] at hj
      rcases hj with rfl | rfl | rfl | rfl | rfl | rfl | rfl | rfl | rfl | rfl | rfl | rfl | rfl | rfl
      all_goals obtain rfl := Option.some.inj ho
      · have hss : a'.tmps.getD 6 undef = .pointer (some ⟨w.heap.size, 0, none⟩) := hsame 6 (by rfl)
        have zz : ∀ o, w'.cell? ⟨w.heap.size, o, none⟩ = _ := fun o => (hC.cell (p := ⟨w.heap.size, o, none⟩) (by show w.heap.size < v10.heap.size; omega)).trans (ceXT o)
        refine wp_val (w2 := w') (.agg #[.int .i64 per, .int .i64 sl]) (fun K hK => ?_) ⟨_, rfl, hC, Below.refl _ _, fun b hb _ => hb 68 rfl⟩
        clear hsame hdep
        unfold Oper.wp
        simp [execOp, Act.eval, hss, go_sem, zz]
        exact hK
      · have e1 : a'.tmps.getD 68 undef = .agg #[.int .i64 per, .int .i64 sl] := hdep ⟨0, .data⟩ (by simp) rfl
        refine wp_call (fun u w2 => u = .agg #[.int .i64 per, .int .i64 sl] ∧ Below w'.heap.size w' w2) (fun K hK => ?_) ?_
        · clear hsame hdep
          unfold Oper.wp
          simp [Act.eval, e1, go_sem]
          refine (toTrust_any per sl _).mono ?_
          rintro e w3 ⟨rfl, hb3⟩
          exact hK _ _ ⟨rfl, hb3⟩
        · rintro u w3 ⟨rfl, hb3⟩
          exact ⟨_, rfl, hC.trans (hb3.mono hz), hb3, fun b hb _ => hb 69 rfl⟩
      · have hss : a'.tmps.getD 16 undef = .pointer (some ⟨v6.heap.size, 0, none⟩) := hsame 16 (by rfl)
        have zz : ∀ o, w'.cell? ⟨v6.heap.size, o, none⟩ = _ := fun o => (hC.cell (p := ⟨v6.heap.size, o, none⟩) (by show v6.heap.size < v10.heap.size; omega)).trans (ceXX o)
        refine wp_val (w2 := w') (.agg #[.int .i64 sa.h, .int .i64 sa.t, .string sa.last, .string sa.vals, .string sa.next, .string sa.data, .slice Ax al.length cx]) (fun K hK => ?_) ⟨_, rfl, hC, Below.refl _ _, fun b hb _ => hb 70 rfl⟩
        clear hsame hdep
        unfold Oper.wp
        simp [execOp, Act.eval, hss, go_sem, zz]
        exact hK
      · have hss : a'.tmps.getD 8 undef = .pointer (some ⟨w.heap.size + 1 + 1, 0, none⟩) := hsame 8 (by rfl)
        have zz : ∀ o, w'.cell? ⟨w.heap.size + 1 + 1, o, none⟩ = _ := fun o => (hC.cell (p := ⟨w.heap.size + 1 + 1, o, none⟩) (by show w.heap.size + 1 + 1 < v10.heap.size; omega)).trans (ceXH o)
        refine wp_val (w2 := w') (.agg #[.int .i64 sh.h, .int .i64 sh.t, .string sh.last, .string sh.vals, .string sh.next, .string sh.data]) (fun K hK => ?_) ⟨_, rfl, hC, Below.refl _ _, fun b hb _ => hb 71 rfl⟩
        clear hsame hdep
        unfold Oper.wp
        simp [execOp, Act.eval, hss, go_sem, zz]
        exact hK
      · have e1 : a'.tmps.getD 71 undef = .agg #[.int .i64 sh.h, .int .i64 sh.t, .string sh.last, .string sh.vals, .string sh.next, .string sh.data] := hdep ⟨3, .data⟩ (by simp) rfl
        refine wp_call (fun u w2 => u = .agg #[.int .i64 sh.h, .int .i64 sh.t, .string sh.last, .string sh.vals, .string sh.next, .string sh.data] ∧ Below w'.heap.size w' w2) (fun K hK => ?_) ?_
        · clear hsame hdep
          unfold Oper.wp
          simp [Act.eval, e1, go_sem]
          refine (toHeader_any _ _ _ _ _ _ _).mono ?_
          rintro e w3 ⟨rfl, hb3⟩
          exact hK _ _ ⟨rfl, hb3⟩
        · rintro u w3 ⟨rfl, hb3⟩
          exact ⟨_, rfl, hC.trans (hb3.mono hz), hb3, fun b hb _ => hb 72 rfl⟩
      · have hss : a'.tmps.getD 17 undef = .slice Ay nl.length cy := hsame 17 (by rfl)
        refine wp_val (w2 := w') (.slice Ay nl.length cy) (fun K hK => ?_) ⟨_, rfl, hC, Below.refl _ _, fun b hb _ => hb 73 rfl⟩
        clear hsame hdep
        unfold Oper.wp
        simp [execOp, Act.eval, hss, go_sem]
        exact hK
      · have hss : a'.tmps.getD 18 undef = .pointer (some ⟨v9.heap.size, 0, none⟩) := hsame 18 (by rfl)
        have zz : ∀ o, w'.cell? ⟨v9.heap.size, o, none⟩ = _ := fun o => (hC.cell (p := ⟨v9.heap.size, o, none⟩) (by show v9.heap.size < v10.heap.size; omega)).trans (ceXY o)
        refine wp_val (w2 := w') (.agg #[.int .i64 pc.h, .int .i64 pc.r, .string pc.id, .slice Az sg.length cz]) (fun K hK => ?_) ⟨_, rfl, hC, Below.refl _ _, fun b hb _ => hb 74 rfl⟩
        clear hsame hdep
        unfold Oper.wp
        simp [execOp, Act.eval, hss, go_sem, zz]
        exact hK
      · have hss : a'.tmps.getD 5 undef = .int .i64 now := hsame 5 (by rfl)
        refine wp_val (w2 := w') (.int .i64 now) (fun K hK => ?_) ⟨_, rfl, hC, Below.refl _ _, fun b hb _ => hb 75 rfl⟩
        clear hsame hdep
        unfold Oper.wp
        simp [execOp, Act.eval, hss, go_sem]
        exact hK
      · have e1 : a'.tmps.getD 69 undef = .agg #[.int .i64 per, .int .i64 sl] := hdep ⟨1, .data⟩ (by simp) rfl
        have e3 : a'.tmps.getD 72 undef = .agg #[.int .i64 sh.h, .int .i64 sh.t, .string sh.last, .string sh.vals, .string sh.next, .string sh.data] := hdep ⟨4, .data⟩ (by simp) rfl
        have e6 : a'.tmps.getD 75 undef = .int .i64 now := hdep ⟨7, .data⟩ (by simp) rfl
        have e2 : a'.tmps.getD 70 undef = .agg #[.int .i64 sa.h, .int .i64 sa.t, .string sa.last, .string sa.vals, .string sa.next, .string sa.data, .slice Ax al.length cx] := hdep ⟨2, .data⟩ (by simp) rfl
        have e4 : a'.tmps.getD 73 undef = .slice Ay nl.length cy := hdep ⟨5, .data⟩ (by simp) rfl
        have e5 : a'.tmps.getD 74 undef = .agg #[.int .i64 pc.h, .int .i64 pc.r, .string pc.id, .slice Az sg.length cz] := hdep ⟨6, .data⟩ (by simp) rfl
        refine wp_call (fun u w2 => ∃ A c, u = .tuple #[.agg #[.int .i64 rhd.h, .int .i64 rhd.t, .string rhd.last, .string rhd.vals, .string rhd.next, .string rhd.data, .slice A ls.length c], .int .i64 r] ∧ OwnL valC 2 84 w2 w'.heap.size w2.heap.size A ls.length c ls ∧ Below w'.heap.size w' w2) (fun K hK => ?_) ?_
        · clear hsame hdep
          unfold Oper.wp
          simp [Act.eval, e1, e2, e3, e4, e5, e6, go_sem]
          refine ((HIM _ Ax cx Ay cy Az cz (by exact (((OX10.out.rd valC_len).below hC (by omega)).more (by have := hC.size; omega))) (by exact (((OY10.out.rd valC_len).below hC (by omega)).more (by have := hC.size; omega))) (by exact (((OZ10.out.rd csigC_len).below hC (by omega)).more (by have := hC.size; omega))) hAL hNL ((HT.out.below B10.out htp).below hC (by omega))).out).mono ?_
          rintro e w3 ⟨A7, c7, rfl, ho3, hb3⟩
          exact hK _ _ ⟨A7, c7, rfl, ho3, hb3⟩
        · rintro u w3 ⟨A7, c7, rfl, ho3, hb3⟩
          exact ⟨_, rfl, hC.trans (hb3.mono hz), hb3, fun b hb _ => ⟨A7, c7, hb 76 rfl, ho3.wide hz (Nat.le_refl _)⟩⟩
      · obtain ⟨A7, c7, e1, hrr⟩ := hdep ⟨8, .data⟩ (by simp) rfl
        refine wp_val (w2 := w') (.tuple #[.agg #[.int .i64 rhd.h, .int .i64 rhd.t, .string rhd.last, .string rhd.vals, .string rhd.next, .string rhd.data, .slice A7 ls.length c7], .int .i64 r]) (fun K hK => ?_) ⟨_, rfl, hC, Below.refl _ _, fun b hb _ => ⟨A7, c7, hb 67 rfl, hrr⟩⟩
        clear hsame hdep hrr
        unfold Oper.wp
        simp [execOp, Act.eval, e1, go_sem]
        exact hK
      · obtain ⟨A7, c7, e1, hrr⟩ := hdep ⟨9, .data⟩ (by simp) rfl
        refine wp_val (w2 := w') (.agg #[.int .i64 rhd.h, .int .i64 rhd.t, .string rhd.last, .string rhd.vals, .string rhd.next, .string rhd.data, .slice A7 ls.length c7]) (fun K hK => ?_) ⟨_, rfl, hC, Below.refl _ _, fun b hb hb2 => ⟨A7, c7, (hb2 67 (by intro d h; cases h; decide)).trans e1, hb 77 rfl, hrr⟩⟩
        clear hsame hdep hrr
        unfold Oper.wp
        simp [execOp, Act.eval, e1, go_sem]
        exact hK
      · obtain ⟨A7, c7, e1, hrr⟩ := hdep ⟨9, .data⟩ (by simp) rfl
        refine wp_val (w2 := w') (.int .i64 r) (fun K hK => ?_) ⟨_, rfl, hC, Below.refl _ _, fun b hb hb2 => hb 78 rfl⟩
        clear hsame hdep hrr
        unfold Oper.wp
        simp [execOp, Act.eval, e1, go_sem]
        exact hK
      · refine wp_val (w2 := w'.alloc (.cells #[.int .i64 0, .int .i64 0, .string ⟨#[]⟩, .string ⟨#[]⟩, .string ⟨#[]⟩, .string ⟨#[]⟩, .slice none 0 0] 30)) (.pointer (some ⟨w'.heap.size, 0, none⟩)) (fun K hK => ?_) ⟨_, rfl, hC.alloc hz _, (Below.refl _ _).alloc (Nat.le_refl _) _, fun b hb _ => ⟨w'.heap.size, _, hb 19 rfl, hz, by rfl, heap_alloc_new w' _⟩⟩
        clear hsame hdep
        unfold Oper.wp
        simp [execOp, go_sem]
        exact hK
      · obtain ⟨q0, cs0, e1, hq0, hsz, hblk⟩ := hdep ⟨12, .data⟩ (by simp) rfl
        obtain ⟨A7, c7, e3, e2, hrr⟩ := hdep ⟨10, .data⟩ (by simp) rfl
        clear e3 hrr
        obtain ⟨lc⟩ := cs0
        obtain ⟨k0, k1, k2, k3, k4, k5, k6, rfl⟩ := list7 (l := lc) (by simpa using hsz)
        have f0 : w'.cell? ⟨q0, 0, none⟩ = some k0 := by rw [hblk.cell]; rfl
        have f1 : w'.cell? ⟨q0, 1, none⟩ = some k1 := by rw [hblk.cell]; rfl
        have f2 : w'.cell? ⟨q0, 2, none⟩ = some k2 := by rw [hblk.cell]; rfl
        have f3 : w'.cell? ⟨q0, 3, none⟩ = some k3 := by rw [hblk.cell]; rfl
        have f4 : w'.cell? ⟨q0, 4, none⟩ = some k4 := by rw [hblk.cell]; rfl
        have f5 : w'.cell? ⟨q0, 5, none⟩ = some k5 := by rw [hblk.cell]; rfl
        have f6 : w'.cell? ⟨q0, 6, none⟩ = some k6 := by rw [hblk.cell]; rfl
        have ff := hblk.frozen
        obtain ⟨w9, hw9⟩ : ∃ z, z = (((((((w'.setCell ⟨q0, 0, none⟩ (.int .i64 rhd.h)).setCell ⟨q0, 1, none⟩ (.int .i64 rhd.t)).setCell ⟨q0, 2, none⟩ (.string rhd.last)).setCell ⟨q0, 3, none⟩ (.string rhd.vals)).setCell ⟨q0, 4, none⟩ (.string rhd.next)).setCell ⟨q0, 5, none⟩ (.string rhd.data)).setCell ⟨q0, 6, none⟩ (.slice A7 ls.length c7)) := ⟨_, rfl⟩
        have hchg : Chg q0 (q0 + 1) w' w9 := by rw [hw9]; (repeat (first | with_reducible refine Chg.setCell ?_ (by first | exact Nat.le_refl _ | (simp; done) | (simp; omega)) (by first | (simp; done) | (simp; omega)) _ | with_reducible refine Chg.alloc ?_ _ | with_reducible refine Chg.drew ?_)); (with_reducible exact Chg.refl _ _ _)
        have hblk2 : Blk w9 q0 30 #[.int .i64 rhd.h, .int .i64 rhd.t, .string rhd.last, .string rhd.vals, .string rhd.next, .string rhd.data, .slice A7 ls.length c7] := by
          rw [hw9]
          have hb := (((((((hblk.set_ 0 (.int .i64 rhd.h)).set_ 1 (.int .i64 rhd.t)).set_ 2 (.string rhd.last)).set_ 3 (.string rhd.vals)).set_ 4 (.string rhd.next)).set_ 5 (.string rhd.data)).set_ 6 (.slice A7 ls.length c7))
          simp only [List.setIfInBounds_toArray, List.set_cons_zero, List.set_cons_succ] at hb
          exact hb
        have hturn := BoxTurn.of_blk hblk hblk2 rfl hchg
        have hcls := hC.trans (hchg.below hq0 hz)
        refine wp_val (w2 := w9) undef (fun K hK => ?_) ⟨_, rfl, hcls, hturn, fun b _ hb => ⟨q0, A7, c7, (hb 19 (by intro d h; cases h)).trans e1, (hb 77 (by intro d h; cases h)).trans e2, hq0, hblk2⟩⟩
        rw [hw9] at hK
        clear hsame hdep hchg hblk2 hturn hcls hw9
        unfold Oper.wp
        simp [execOp, Act.eval, e1, e2, go_sem, f0, f1, f2, f3, f4, f5, f6, ff]
        exact hK
    · intro a' w' hC ha hP
      obtain ⟨q0, A7, c7, e1, f1, hq0, hblk⟩ := hP 13 (by simp)
      obtain ⟨A8, c8, _, f2, hrr⟩ := hP 10 (by simp)
      have e4 : a'.tmps.getD 78 undef = .int .i64 r := hP 11 (by simp)
      clear hP
      have ex := f1.symm.trans f2
      simp only [Value.agg.injEq, Array.mk.injEq, List.cons.injEq, Value.slice.injEq, true_and, and_true] at ex
      obtain ⟨rfl, rfl⟩ := ex
      clear f2
      simp only [coreOps, List.filterMap_cons, List.filterMap_nil, List.getElem?_cons_zero, List.getElem?_cons_succ, fillA, slotOf, Act.put, e1, e4] at ha
      generalize a'.tmps.getD 68 undef = u68 at ha
      generalize a'.tmps.getD 69 undef = u69 at ha
      generalize a'.tmps.getD 70 undef = u70 at ha
      generalize a'.tmps.getD 71 undef = u71 at ha
      generalize a'.tmps.getD 72 undef = u72 at ha
      generalize a'.tmps.getD 73 undef = u73 at ha
      generalize a'.tmps.getD 74 undef = u74 at ha
      generalize a'.tmps.getD 75 undef = u75 at ha
      generalize a'.tmps.getD 76 undef = u76 at ha
      generalize a'.tmps.getD 67 undef = u67 at ha
      rw [f1] at ha
      subst ha
      show wpAny _ _ _ _ 1 _ _ _
      refine wpAny_ready (rs := [14]) (by kernel_rfl) (by simp) ?_
      refine AllReady.cons rfl (fun K hK => ?_) AllReady.nil
      go_simp
      refine hK _ _ ?_
      clear hK K
      refine wpAny_done (by kernel_rfl) ?_ _
      go_wp2_with fail
      go_meet
      obtain ⟨ga, gb, o3, b1, b2, b3, b4⟩ := hrr.apart hblk (by decide) hC.size
      exact ⟨q0, A7, c7, ga, gb, rfl, rfl, hq0, hblk, o3, b1, b2, b3, b4, hC⟩
  case rest =>
  obtain ⟨qg, Ag, cg, gag, gbg, rfl, rfl, hqg, hblk, ho, g1g, g2g, g3g, g4g, hb⟩ := hcut
  obtain ⟨v11, hwv⟩ : ∃ z, z = wc := ⟨_, rfl⟩
  subst hwv
  clear ceXT lbXT ceXA lbXA ceXH lbXH ceXC lbXC
  clear ceXX lbXX ceXY lbXY
  have hs11 := hb.size
  have XT11 := Lib.hid (XT10.out.below hb XT10.out.lt)
  have XA11 := Lib.hid (XA10.out.below hb XA10.out.lt)
  have XH11 := Lib.hid (XH10.out.below hb XH10.out.lt)
  have XC11 := Lib.hid (XC10.out.below hb XC10.out.lt)
  have B11 := Lib.hid (B10.out.trans (hb.mono B10.out.size))
  have XWa11 := Lib.hid (XWa10.out.below hb XWa10.out.lt)
  have OWa11 := Lib.hid (OWa10.out.below hb (by omega))
  have OX11 := Lib.hid (OX10.out.below hb (by omega))
  have XX11 := Lib.hid (XX10.out.below hb XX10.out.lt)
  have OY11 := Lib.hid (OY10.out.below hb (by omega))
  have OZ11 := Lib.hid (OZ10.out.below hb (by omega))
  have XY11 := Lib.hid (XY10.out.below hb XY10.out.lt)
  clear hb XT10 XA10 XH10 XC10 B10 XWa10 OWa10 OX10 XX10 OY10 OZ10 XY10
  have XWg11 := Lib.hid hblk
  have OWg11 := Lib.hid ho
  have ltWg := hblk.lt
  clear hblk ho
  have ceXWg := XWg11.out.cell
  have lbXWg := XWg11.out.lt
  have ceXWa := XWa11.out.cell
  have lbXWa := XWa11.out.lt
  go_wp2_with fail
  refine (eqAnchor_same rhd Ag _ cg Aa ca ls _ ((OWg11.out.rd valC_len).more (by omega)) ((OWa11.out.rd valC_len).more (by omega))).mono ?_
  rintro e v12 ⟨rfl, hb⟩
  clear ceXWg lbXWg ceXWa lbXWa
  have hs12 := hb.size
  have XT12 := Lib.hid (XT11.out.below hb XT11.out.lt)
  have XA12 := Lib.hid (XA11.out.below hb XA11.out.lt)
  have XH12 := Lib.hid (XH11.out.below hb XH11.out.lt)
  have XC12 := Lib.hid (XC11.out.below hb XC11.out.lt)
  have B12 := Lib.hid (B11.out.trans (hb.mono B11.out.size))
  have XWa12 := Lib.hid (XWa11.out.below hb XWa11.out.lt)
  have OWa12 := Lib.hid (OWa11.out.below hb (by omega))
  have OX12 := Lib.hid (OX11.out.below hb (by omega))
  have XX12 := Lib.hid (XX11.out.below hb XX11.out.lt)
  have OY12 := Lib.hid (OY11.out.below hb (by omega))
  have OZ12 := Lib.hid (OZ11.out.below hb (by omega))
  have XY12 := Lib.hid (XY11.out.below hb XY11.out.lt)
  have XWg12 := Lib.hid (XWg11.out.below hb XWg11.out.lt)
  have OWg12 := Lib.hid (OWg11.out.below hb (by omega))
  clear hb XT11 XA11 XH11 XC11 B11 XWa11 OWa11 OX11 XX11 OY11 OZ11 XY11 XWg11 OWg11
  go_upto_region 21 with fail
  go_cut [92] (fun sx wx => sx = .bool false ∧ Below v12.heap.size v12 wx)
  case first =>
    have ceXX := XX12.out.cell
    have lbXX := XX12.out.lt
    have ceXA := XA12.out.cell
    have lbXA := XA12.out.lt
    go_region_with (first
      | (go_at_call 19; (refine (toAnchor_any sa A _ c al _ (by exact ((HA.out.below B12.out (Nat.le_refl _)).more B12.out.size)) hAL).mono ?_); rintro e wr ⟨A6, n6, c6, rfl, ho, hb6⟩; have hb6 : Below v12.heap.size v12 wr := ((Below.refl v12.heap.size v12).drew).trans hb6; obtain rfl : al.length = n6 := ho.1; have R6 := Lib.hid (ho.rd valC_len); clear ho; have zx : ∀ o, wr.cell? ⟨v6.heap.size, o, none⟩ = _ := fun o => (hb6.cell (p := ⟨v6.heap.size, o, none⟩) lbXX).trans (ceXX o); have R7 := Lib.hid ((OX12.out.rd valC_len).below hb6 (by omega)); have G6 := Lib.hid hb6; have h66 : v12.heap.size ≤ wr.heap.size := hb6.size; clear hb6)
      | (go_at_call 23; (refine (eqAnchor_same sa Ax _ cx A6 c6 al _ (by exact (R7.out.more (by omega))) (by exact R6.out)).mono ?_); rintro e ws ⟨rfl, hb7⟩; have G7 := Lib.hid hb7; clear hb7))
    all_goals
      go_wp2_with fail
      go_meet
      exact ⟨rfl, G6.out.trans (G7.out.mono G6.out.size)⟩
  case rest =>
  obtain ⟨rfl, hb⟩ := hcut
  obtain ⟨v13, hwv⟩ : ∃ z, z = wc := ⟨_, rfl⟩
  subst hwv
  have hs13 := hb.size
  have XT13 := Lib.hid (XT12.out.below hb XT12.out.lt)
  have XA13 := Lib.hid (XA12.out.below hb XA12.out.lt)
  have XH13 := Lib.hid (XH12.out.below hb XH12.out.lt)
  have XC13 := Lib.hid (XC12.out.below hb XC12.out.lt)
  have B13 := Lib.hid (B12.out.trans (hb.mono B12.out.size))
  have XWa13 := Lib.hid (XWa12.out.below hb XWa12.out.lt)
  have OWa13 := Lib.hid (OWa12.out.below hb (by omega))
  have OX13 := Lib.hid (OX12.out.below hb (by omega))
  have XX13 := Lib.hid (XX12.out.below hb XX12.out.lt)
  have OY13 := Lib.hid (OY12.out.below hb (by omega))
  have OZ13 := Lib.hid (OZ12.out.below hb (by omega))
  have XY13 := Lib.hid (XY12.out.below hb XY12.out.lt)
  have XWg13 := Lib.hid (XWg12.out.below hb XWg12.out.lt)
  have OWg13 := Lib.hid (OWg12.out.below hb (by omega))
  clear hb XT12 XA12 XH12 XC12 B12 XWa12 OWa12 OX12 XX12 OY12 OZ12 XY12 XWg12 OWg12
  go_wp2_with fail
  refine (toValS_own B _ d nl _ ((HN.out.below B13.out (Nat.le_refl _)).more B13.out.size) hNL).mono ?_
  rintro e v14 ⟨Ay2, cy2, rfl, ho, hb⟩
  have HO := Lib.hid ho
  clear ho
  have hs14 := hb.size
  have XT14 := Lib.hid (XT13.out.below hb XT13.out.lt)
  have XA14 := Lib.hid (XA13.out.below hb XA13.out.lt)
  have XH14 := Lib.hid (XH13.out.below hb XH13.out.lt)
  have XC14 := Lib.hid (XC13.out.below hb XC13.out.lt)
  have B14 := Lib.hid (B13.out.trans (hb.mono B13.out.size))
  have XWa14 := Lib.hid (XWa13.out.below hb XWa13.out.lt)
  have OWa14 := Lib.hid (OWa13.out.below hb (by omega))
  have OX14 := Lib.hid (OX13.out.below hb (by omega))
  have XX14 := Lib.hid (XX13.out.below hb XX13.out.lt)
  have OY14 := Lib.hid (OY13.out.below hb (by omega))
  have OZ14 := Lib.hid (OZ13.out.below hb (by omega))
  have XY14 := Lib.hid (XY13.out.below hb XY13.out.lt)
  have XWg14 := Lib.hid (XWg13.out.below hb XWg13.out.lt)
  have OWg14 := Lib.hid (OWg13.out.below hb (by omega))
  clear hb XT13 XA13 XH13 XC13 B13 XWa13 OWa13 OX13 XX13 OY13 OZ13 XY13 XWg13 OWg13
  have OT14 := HO
  clear HO
  go_wp2_with fail
  refine (eqValS_same Ay _ cy Ay2 cy2 nl _ ((OY14.out.rd valC_len).more (by omega)) ((OT14.out.rd valC_len).more (by omega))).mono ?_
  rintro e v15 ⟨rfl, hb⟩
  have hs15 := hb.size
  have XT15 := Lib.hid (XT14.out.below hb XT14.out.lt)
  have XA15 := Lib.hid (XA14.out.below hb XA14.out.lt)
  have XH15 := Lib.hid (XH14.out.below hb XH14.out.lt)
  have XC15 := Lib.hid (XC14.out.below hb XC14.out.lt)
  have B15 := Lib.hid (B14.out.trans (hb.mono B14.out.size))
  have XWa15 := Lib.hid (XWa14.out.below hb XWa14.out.lt)
  have OWa15 := Lib.hid (OWa14.out.below hb (by omega))
  have OX15 := Lib.hid (OX14.out.below hb (by omega))
  have XX15 := Lib.hid (XX14.out.below hb XX14.out.lt)
  have OY15 := Lib.hid (OY14.out.below hb (by omega))
  have OZ15 := Lib.hid (OZ14.out.below hb (by omega))
  have XY15 := Lib.hid (XY14.out.below hb XY14.out.lt)
  have XWg15 := Lib.hid (XWg14.out.below hb XWg14.out.lt)
  have OWg15 := Lib.hid (OWg14.out.below hb (by omega))
  have OT15 := Lib.hid (OT14.out.below hb (by omega))
  clear hb XT14 XA14 XH14 XC14 B14 XWa14 OWa14 OX14 XX14 OY14 OZ14 XY14 XWg14 OWg14 OT14
  clear OT15
  go_upto_region 25 with fail
  go_cut [102] (fun sx wx => sx = .bool false ∧ Below v15.heap.size v15 wx)
  case first =>
    have ceXY := XY15.out.cell
    have lbXY := XY15.out.lt
    have ceXC := XC15.out.cell
    have lbXC := XC15.out.lt
    go_region_with (first
      | (go_at_call 22; (refine (toCommit_any pc D _ q sg _ (by exact ((HS.out.below B15.out (Nat.le_refl _)).more B15.out.size)) hSL).mono ?_); rintro e wr ⟨A6, n6, c6, rfl, ho, hb6⟩; have hb6 : Below v15.heap.size v15 wr := ((Below.refl v15.heap.size v15).drew).trans hb6; obtain rfl : sg.length = n6 := ho.1; have R6 := Lib.hid (ho.rd csigC_len); clear ho; have zx : ∀ o, wr.cell? ⟨v9.heap.size, o, none⟩ = _ := fun o => (hb6.cell (p := ⟨v9.heap.size, o, none⟩) lbXY).trans (ceXY o); have R7 := Lib.hid ((OZ15.out.rd csigC_len).below hb6 (by omega)); have G6 := Lib.hid hb6; have h66 : v15.heap.size ≤ wr.heap.size := hb6.size; clear hb6)
      | (go_at_call 25; (refine (eqCommit_same pc Az _ cz A6 c6 sg _ (by exact (R7.out.more (by omega))) (by exact R6.out)).mono ?_); rintro e ws ⟨rfl, hb7⟩; have G7 := Lib.hid hb7; clear hb7))
    all_goals
      go_wp2_with fail
      go_meet
      exact ⟨rfl, G6.out.trans (G7.out.mono G6.out.size)⟩
  case rest =>
  obtain ⟨rfl, hb⟩ := hcut
  obtain ⟨v16, hwv⟩ : ∃ z, z = wc := ⟨_, rfl⟩
  subst hwv
  have hs16 := hb.size
  have XT16 := Lib.hid (XT15.out.below hb XT15.out.lt)
  have XA16 := Lib.hid (XA15.out.below hb XA15.out.lt)
  have XH16 := Lib.hid (XH15.out.below hb XH15.out.lt)
  have XC16 := Lib.hid (XC15.out.below hb XC15.out.lt)
  have B16 := Lib.hid (B15.out.trans (hb.mono B15.out.size))
  have XWa16 := Lib.hid (XWa15.out.below hb XWa15.out.lt)
  have OWa16 := Lib.hid (OWa15.out.below hb (by omega))
  have OX16 := Lib.hid (OX15.out.below hb (by omega))
  have XX16 := Lib.hid (XX15.out.below hb XX15.out.lt)
  have OY16 := Lib.hid (OY15.out.below hb (by omega))
  have OZ16 := Lib.hid (OZ15.out.below hb (by omega))
  have XY16 := Lib.hid (XY15.out.below hb XY15.out.lt)
  have XWg16 := Lib.hid (XWg15.out.below hb XWg15.out.lt)
  have OWg16 := Lib.hid (OWg15.out.below hb (by omega))
  clear hb XT15 XA15 XH15 XC15 B15 XWa15 OWa15 OX15 XX15 OY15 OZ15 XY15 XWg15 OWg15
  have ceXX := XX16.out.cell
  have lbXX := XX16.out.lt
  go_wp2_with fail
  refine (markAnchor_any sa Ax _ cx al _ _ 1 _ OX16.out (by omega) (by decide) (by omega) (by decide)).mono ?_
  obtain ⟨k1, hk1⟩ : ∃ z : Nat, z = 1 + al.length * 2 := ⟨_, rfl⟩
  rw [← hk1]
  have bk1 : 0 < k1 ∧ k1 ≤ 3000000 := by omega
  have HK1 := Lib.hid hk1
  clear hk1
  rintro e v17 ⟨rfl, ho, hc⟩
  have HO := Lib.hid ho
  clear ho
  clear ceXX lbXX
  clear OX16
  have hs17 := hc.size
  have XT17 := Lib.hid (show Blk _ _ _ _ from (hc.block _ XT16.out.lt (by omega)).trans XT16.out)
  have XA17 := Lib.hid (show Blk _ _ _ _ from (hc.block _ XA16.out.lt (by omega)).trans XA16.out)
  have XH17 := Lib.hid (show Blk _ _ _ _ from (hc.block _ XH16.out.lt (by omega)).trans XH16.out)
  have XC17 := Lib.hid (show Blk _ _ _ _ from (hc.block _ XC16.out.lt (by omega)).trans XC16.out)
  have B17 := Lib.hid (B16.out.trans (hc.below (B := w.heap.size) (by omega) (by omega)))
  have XWa17 := Lib.hid (show Blk _ _ _ _ from (hc.block _ XWa16.out.lt (by omega)).trans XWa16.out)
  have OWa17 := Lib.hid (OWa16.out.chg hc (by omega))
  have XX17 := Lib.hid (show Blk _ _ _ _ from (hc.block _ XX16.out.lt (by omega)).trans XX16.out)
  have OY17 := Lib.hid (OY16.out.chg hc (by omega))
  have OZ17 := Lib.hid (OZ16.out.chg hc (by omega))
  have XY17 := Lib.hid (show Blk _ _ _ _ from (hc.block _ XY16.out.lt (by omega)).trans XY16.out)
  have XWg17 := Lib.hid (show Blk _ _ _ _ from (hc.block _ XWg16.out.lt (by omega)).trans XWg16.out)
  have OWg17 := Lib.hid (OWg16.out.chg hc (by omega))
  clear hc XT16 XA16 XH16 XC16 B16 XWa16 OWa16 XX16 OY16 OZ16 XY16 XWg16 OWg16
  clear HO
  go_wp2_with fail
  refine (markValS_any 84 Ay _ cy nl _ _ k1 _ OY17.out (by omega) (by omega) (by omega)).mono ?_
  obtain ⟨k2, hk2⟩ : ∃ z : Nat, z = k1 + nl.length * 2 := ⟨_, rfl⟩
  rw [← hk2]
  have bk2 : 0 < k2 ∧ k2 ≤ 6000000 := by omega
  have HK2 := Lib.hid hk2
  clear hk2
  rintro e v18 ⟨rfl, ho, hc⟩
  have HO := Lib.hid ho
  clear ho
  clear OY17
  have hs18 := hc.size
  have XT18 := Lib.hid (show Blk _ _ _ _ from (hc.block _ XT17.out.lt (by omega)).trans XT17.out)
  have XA18 := Lib.hid (show Blk _ _ _ _ from (hc.block _ XA17.out.lt (by omega)).trans XA17.out)
  have XH18 := Lib.hid (show Blk _ _ _ _ from (hc.block _ XH17.out.lt (by omega)).trans XH17.out)
  have XC18 := Lib.hid (show Blk _ _ _ _ from (hc.block _ XC17.out.lt (by omega)).trans XC17.out)
  have B18 := Lib.hid (B17.out.trans (hc.below (B := w.heap.size) (by omega) (by omega)))
  have XWa18 := Lib.hid (show Blk _ _ _ _ from (hc.block _ XWa17.out.lt (by omega)).trans XWa17.out)
  have OWa18 := Lib.hid (OWa17.out.chg hc (by omega))
  have XX18 := Lib.hid (show Blk _ _ _ _ from (hc.block _ XX17.out.lt (by omega)).trans XX17.out)
  have OZ18 := Lib.hid (OZ17.out.chg hc (by omega))
  have XY18 := Lib.hid (show Blk _ _ _ _ from (hc.block _ XY17.out.lt (by omega)).trans XY17.out)
  have XWg18 := Lib.hid (show Blk _ _ _ _ from (hc.block _ XWg17.out.lt (by omega)).trans XWg17.out)
  have OWg18 := Lib.hid (OWg17.out.chg hc (by omega))
  clear hc XT17 XA17 XH17 XC17 B17 XWa17 OWa17 XX17 OZ17 XY17 XWg17 OWg17
  clear HO
  have ceXY := XY18.out.cell
  have lbXY := XY18.out.lt
  go_wp2_with fail
  refine (markCommit_any pc Az _ cz sg _ _ k2 _ OZ18.out (by omega) (by omega) (by omega) (by omega)).mono ?_
  obtain ⟨k3, hk3⟩ : ∃ z : Nat, z = k2 + sg.length * 2 := ⟨_, rfl⟩
  rw [← hk3]
  have bk3 : 0 < k3 ∧ k3 ≤ 9000000 := by omega
  have HK3 := Lib.hid hk3
  clear hk3
  rintro e v19 ⟨rfl, ho, hc⟩
  have HO := Lib.hid ho
  clear ho
  clear ceXY lbXY
  clear OZ18
  have hs19 := hc.size
  have XT19 := Lib.hid (show Blk _ _ _ _ from (hc.block _ XT18.out.lt (by omega)).trans XT18.out)
  have XA19 := Lib.hid (show Blk _ _ _ _ from (hc.block _ XA18.out.lt (by omega)).trans XA18.out)
  have XH19 := Lib.hid (show Blk _ _ _ _ from (hc.block _ XH18.out.lt (by omega)).trans XH18.out)
  have XC19 := Lib.hid (show Blk _ _ _ _ from (hc.block _ XC18.out.lt (by omega)).trans XC18.out)
  have B19 := Lib.hid (B18.out.trans (hc.below (B := w.heap.size) (by omega) (by omega)))
  have XWa19 := Lib.hid (show Blk _ _ _ _ from (hc.block _ XWa18.out.lt (by omega)).trans XWa18.out)
  have OWa19 := Lib.hid (OWa18.out.chg hc (by omega))
  have XX19 := Lib.hid (show Blk _ _ _ _ from (hc.block _ XX18.out.lt (by omega)).trans XX18.out)
  have XY19 := Lib.hid (show Blk _ _ _ _ from (hc.block _ XY18.out.lt (by omega)).trans XY18.out)
  have XWg19 := Lib.hid (show Blk _ _ _ _ from (hc.block _ XWg18.out.lt (by omega)).trans XWg18.out)
  have OWg19 := Lib.hid (OWg18.out.chg hc (by omega))
  clear hc XT18 XA18 XH18 XC18 B18 XWa18 OWa18 XX18 XY18 XWg18 OWg18
  clear HO
  have k3n : ¬ ((k3 : Nat) : Int) < 0 := by omega
  have ceXWg := XWg19.out.cell
  have lbXWg := XWg19.out.lt
  have ceXWa := XWa19.out.cell
  have lbXWa := XWa19.out.lt
  go_wp2_with fail
  refine (eqAnchor_same rhd Ag _ cg Aa ca ls _ ((OWg19.out.rd valC_len).more (by omega)) ((OWa19.out.rd valC_len).more (by omega))).mono ?_
  rintro e v20 ⟨rfl, hb⟩
  clear ceXWg lbXWg ceXWa lbXWa
  have hs20 := hb.size
  have XT20 := Lib.hid (XT19.out.below hb XT19.out.lt)
  have XA20 := Lib.hid (XA19.out.below hb XA19.out.lt)
  have XH20 := Lib.hid (XH19.out.below hb XH19.out.lt)
  have XC20 := Lib.hid (XC19.out.below hb XC19.out.lt)
  have B20 := Lib.hid (B19.out.trans (hb.mono B19.out.size))
  have XWa20 := Lib.hid (XWa19.out.below hb XWa19.out.lt)
  have OWa20 := Lib.hid (OWa19.out.below hb (by omega))
  have XX20 := Lib.hid (XX19.out.below hb XX19.out.lt)
  have XY20 := Lib.hid (XY19.out.below hb XY19.out.lt)
  have XWg20 := Lib.hid (XWg19.out.below hb XWg19.out.lt)
  have OWg20 := Lib.hid (OWg19.out.below hb (by omega))
  clear hb XT19 XA19 XH19 XC19 B19 XWa19 OWa19 XX19 XY19 XWg19 OWg19
  have ceXWg := XWg20.out.cell
  have lbXWg := XWg20.out.lt
  go_wp2_with fail
  refine (markAnchor_any rhd Ag _ cg ls _ _ 1 _ OWg20.out (by omega) (by decide) (by omega) (by decide)).mono ?_
  obtain ⟨k4, hk4⟩ : ∃ z : Nat, z = 1 + ls.length * 2 := ⟨_, rfl⟩
  rw [← hk4]
  have bk4 : 0 < k4 ∧ k4 ≤ 3000000 := by omega
  have HK4 := Lib.hid hk4
  clear hk4
  rintro e v21 ⟨rfl, ho, hc⟩
  have HO := Lib.hid ho
  clear ho
  clear ceXWg lbXWg
  clear OWg20
  have hs21 := hc.size
  have XT21 := Lib.hid (show Blk _ _ _ _ from (hc.block _ XT20.out.lt (by omega)).trans XT20.out)
  have XA21 := Lib.hid (show Blk _ _ _ _ from (hc.block _ XA20.out.lt (by omega)).trans XA20.out)
  have XH21 := Lib.hid (show Blk _ _ _ _ from (hc.block _ XH20.out.lt (by omega)).trans XH20.out)
  have XC21 := Lib.hid (show Blk _ _ _ _ from (hc.block _ XC20.out.lt (by omega)).trans XC20.out)
  have B21 := Lib.hid (B20.out.trans (hc.below (B := w.heap.size) (by omega) (by omega)))
  have XWa21 := Lib.hid (show Blk _ _ _ _ from (hc.block _ XWa20.out.lt (by omega)).trans XWa20.out)
  have OWa21 := Lib.hid (OWa20.out.chg hc (by omega))
  have XX21 := Lib.hid (show Blk _ _ _ _ from (hc.block _ XX20.out.lt (by omega)).trans XX20.out)
  have XY21 := Lib.hid (show Blk _ _ _ _ from (hc.block _ XY20.out.lt (by omega)).trans XY20.out)
  have XWg21 := Lib.hid (show Blk _ _ _ _ from (hc.block _ XWg20.out.lt (by omega)).trans XWg20.out)
  clear hc XT20 XA20 XH20 XC20 B20 XWa20 OWa20 XX20 XY20 XWg20
  have OWg21 := HO
  clear HO
  have ceXWg := XWg21.out.cell
  have lbXWg := XWg21.out.lt
  go_wp2_with fail
  refine (heldAnchor_any rhd Ag _ cg 1 _ ((OWg21.out.rd valC_len).more (by omega)) (by decide) (by omega) (by decide)).mono ?_
  rw [← HK4.out]
  rintro e v22 ⟨rfl, hb⟩
  clear ceXWg lbXWg
  have hs22 := hb.size
  have XT22 := Lib.hid (XT21.out.below hb XT21.out.lt)
  have XA22 := Lib.hid (XA21.out.below hb XA21.out.lt)
  have XH22 := Lib.hid (XH21.out.below hb XH21.out.lt)
  have XC22 := Lib.hid (XC21.out.below hb XC21.out.lt)
  have B22 := Lib.hid (B21.out.trans (hb.mono B21.out.size))
  have XWa22 := Lib.hid (XWa21.out.below hb XWa21.out.lt)
  have OWa22 := Lib.hid (OWa21.out.below hb (by omega))
  have XX22 := Lib.hid (XX21.out.below hb XX21.out.lt)
  have XY22 := Lib.hid (XY21.out.below hb XY21.out.lt)
  have XWg22 := Lib.hid (XWg21.out.below hb XWg21.out.lt)
  have OWg22 := Lib.hid (OWg21.out.below hb (by omega))
  clear hb XT21 XA21 XH21 XC21 B21 XWa21 OWa21 XX21 XY21 XWg21 OWg21
  have k4n : ¬ ((k4 : Nat) : Int) < 0 := by omega
  go_upto_region 41 with fail
  have ceXT := XT22.out.cell
  have lbXT := XT22.out.lt
  have ceXA := XA22.out.cell
  have lbXA := XA22.out.lt
  have ceXH := XH22.out.cell
  have lbXH := XH22.out.lt
  have ceXC := XC22.out.cell
  have lbXC := XC22.out.lt
  go_cut [24, 25] (fun sp sk wx => ∃ qq A c ga gb, sp = .pointer (some ⟨qq, 0, none⟩) ∧ sk = .int .i64 r ∧ v22.heap.size ≤ qq ∧ Blk wx qq 30 #[.int .i64 rhd.h, .int .i64 rhd.t, .string rhd.last, .string rhd.vals, .string rhd.next, .string rhd.data, .slice A ls.length c] ∧ OwnL valC 2 84 wx ga gb A ls.length c ls ∧ v22.heap.size ≤ ga ∧ ga ≤ gb ∧ gb ≤ wx.heap.size ∧ (qq < ga ∨ gb ≤ qq) ∧ Below v22.heap.size v22 wx)
  case first =>
    refine wp_region_core [0, 1, 2, 3, 4, 5, 6, 7, 8, 9, 10, 11, 12, 13, 14, 15, 16] (Below v22.heap.size v22) (fun j wa wb => match j with | 16 => BoxTurn 30 wa wb | _ => Below wa.heap.size wa wb) (fun i b w => match i with
      | 0 => b.tmps.getD 137 undef = .agg #[.int .i64 per, .int .i64 sl]
      | 1 => b.tmps.getD 138 undef = .agg #[.int .i64 per, .int .i64 sl]
      | 2 => b.tmps.getD 139 undef = .agg #[.int .i64 sa.h, .int .i64 sa.t, .string sa.last, .string sa.vals, .string sa.next, .string sa.data, .slice A al.length c]
      | 3 => ∃ A c, b.tmps.getD 140 undef = .agg #[.int .i64 sa.h, .int .i64 sa.t, .string sa.last, .string sa.vals, .string sa.next, .string sa.data, .slice A al.length c] ∧ OwnL valC 2 84 w v22.heap.size w.heap.size A al.length c al
      | 4 => b.tmps.getD 141 undef = .agg #[.int .i64 sh.h, .int .i64 sh.t, .string sh.last, .string sh.vals, .string sh.next, .string sh.data]
      | 5 => b.tmps.getD 142 undef = .agg #[.int .i64 sh.h, .int .i64 sh.t, .string sh.last, .string sh.vals, .string sh.next, .string sh.data]
      | 6 => b.tmps.getD 143 undef = .slice B nl.length d
      | 7 => ∃ A c, b.tmps.getD 144 undef = .slice A nl.length c ∧ OwnL valC 2 84 w v22.heap.size w.heap.size A nl.length c nl
      | 8 => b.tmps.getD 145 undef = .agg #[.int .i64 pc.h, .int .i64 pc.r, .string pc.id, .slice D sg.length q]
      | 9 => ∃ A c, b.tmps.getD 146 undef = .agg #[.int .i64 pc.h, .int .i64 pc.r, .string pc.id, .slice A sg.length c] ∧ OwnL csigC 2 91 w v22.heap.size w.heap.size A sg.length c sg
      | 10 => b.tmps.getD 147 undef = .int .i64 now
      | 11 => ∃ A c, b.tmps.getD 148 undef = .tuple #[.agg #[.int .i64 rhd.h, .int .i64 rhd.t, .string rhd.last, .string rhd.vals, .string rhd.next, .string rhd.data, .slice A ls.length c], .int .i64 r] ∧ OwnL valC 2 84 w v22.heap.size w.heap.size A ls.length c ls
      | 12 => ∃ A c, b.tmps.getD 136 undef = .tuple #[.agg #[.int .i64 rhd.h, .int .i64 rhd.t, .string rhd.last, .string rhd.vals, .string rhd.next, .string rhd.data, .slice A ls.length c], .int .i64 r] ∧ OwnL valC 2 84 w v22.heap.size w.heap.size A ls.length c ls
      | 13 => ∃ A c, b.tmps.getD 136 undef = .tuple #[.agg #[.int .i64 rhd.h, .int .i64 rhd.t, .string rhd.last, .string rhd.vals, .string rhd.next, .string rhd.data, .slice A ls.length c], .int .i64 r] ∧ b.tmps.getD 149 undef = .agg #[.int .i64 rhd.h, .int .i64 rhd.t, .string rhd.last, .string rhd.vals, .string rhd.next, .string rhd.data, .slice A ls.length c] ∧ OwnL valC 2 84 w v22.heap.size w.heap.size A ls.length c ls
      | 14 => b.tmps.getD 150 undef = .int .i64 r
      | 15 => ∃ qq cs, b.tmps.getD 24 undef = .pointer (some ⟨qq, 0, none⟩) ∧ v22.heap.size ≤ qq ∧ cs.size = 7 ∧ Blk w qq 30 cs
      | 16 => ∃ qq A c, b.tmps.getD 24 undef = .pointer (some ⟨qq, 0, none⟩) ∧ b.tmps.getD 149 undef = .agg #[.int .i64 rhd.h, .int .i64 rhd.t, .string rhd.last, .string rhd.vals, .string rhd.next, .string rhd.data, .slice A ls.length c] ∧ v22.heap.size ≤ qq ∧ Blk w qq 30 #[.int .i64 rhd.h, .int .i64 rhd.t, .string rhd.last, .string rhd.vals, .string rhd.next, .string rhd.data, .slice A ls.length c]
      | _ => True) (by kernel_rfl) (by kernel_rfl) ((Below.refl _ _).drew) ?_ ?_ ?_
    · intro b wa wb i j oj v hi hj hij hoj hdep hE h
      simp only [List.mem_cons, List.not_mem_nil, or_false] at hi hj
      rcases hj with rfl | rfl | rfl | rfl | rfl | rfl | rfl | rfl | rfl | rfl | rfl | rfl | rfl | rfl | rfl | rfl | rfl
      all_goals obtain rfl := Option.some.inj hoj
      · rcases hi with rfl | rfl | rfl | rfl | rfl | rfl | rfl | rfl | rfl | rfl | rfl | rfl | rfl | rfl | rfl | rfl | rfl
        all_goals first | exact absurd rfl hij | (simp only at hE h ⊢; first | exact getkV h (by decide) | (obtain ⟨A, c, e, h⟩ := h; first | exact ⟨A, c, getkV e (by decide), (h.below hE (Nat.le_refl _)).wide (Nat.le_refl _) hE.size⟩ | exact ⟨A, c, getkV e (by decide), hE.row (by decide) h⟩ | (obtain ⟨e2, h⟩ := h; first | exact ⟨A, c, getkV e (by decide), getkV e2 (by decide), (h.below hE (Nat.le_refl _)).wide (Nat.le_refl _) hE.size⟩ | exact ⟨A, c, getkV e (by decide), getkV e2 (by decide), hE.row (by decide) h⟩ | (obtain ⟨h3, h4⟩ := h; first | exact ⟨A, c, getkV e (by decide), e2, h3, h4.below hE h4.lt⟩ | (obtain ⟨c', h5, h6⟩ := hE.box h4; exact ⟨A, c', getkV e (by decide), e2, h5.trans h3, h6⟩)))) | (obtain ⟨qq, A, c, e, e2, h3, h4⟩ := h; exact ⟨qq, A, c, getkV e (by decide), getkV e2 (by decide), h3, h4.below hE h4.lt⟩)) | exact absurd rfl (hdep _ rfl ⟨0, .data⟩ (by simp) rfl)
      · rcases hi with rfl | rfl | rfl | rfl | rfl | rfl | rfl | rfl | rfl | rfl | rfl | rfl | rfl | rfl | rfl | rfl | rfl
        all_goals first | exact absurd rfl hij | (simp only at hE h ⊢; first | exact getkV h (by decide) | (obtain ⟨A, c, e, h⟩ := h; first | exact ⟨A, c, getkV e (by decide), (h.below hE (Nat.le_refl _)).wide (Nat.le_refl _) hE.size⟩ | exact ⟨A, c, getkV e (by decide), hE.row (by decide) h⟩ | (obtain ⟨e2, h⟩ := h; first | exact ⟨A, c, getkV e (by decide), getkV e2 (by decide), (h.below hE (Nat.le_refl _)).wide (Nat.le_refl _) hE.size⟩ | exact ⟨A, c, getkV e (by decide), getkV e2 (by decide), hE.row (by decide) h⟩ | (obtain ⟨h3, h4⟩ := h; first | exact ⟨A, c, getkV e (by decide), e2, h3, h4.below hE h4.lt⟩ | (obtain ⟨c', h5, h6⟩ := hE.box h4; exact ⟨A, c', getkV e (by decide), e2, h5.trans h3, h6⟩)))) | (obtain ⟨qq, A, c, e, e2, h3, h4⟩ := h; exact ⟨qq, A, c, getkV e (by decide), getkV e2 (by decide), h3, h4.below hE h4.lt⟩)) | exact absurd rfl (hdep _ rfl ⟨1, .data⟩ (by simp) rfl)
      · rcases hi with rfl | rfl | rfl | rfl | rfl | rfl | rfl | rfl | rfl | rfl | rfl | rfl | rfl | rfl | rfl | rfl | rfl
        all_goals first | exact absurd rfl hij | (simp only at hE h ⊢; first | exact getkV h (by decide) | (obtain ⟨A, c, e, h⟩ := h; first | exact ⟨A, c, getkV e (by decide), (h.below hE (Nat.le_refl _)).wide (Nat.le_refl _) hE.size⟩ | exact ⟨A, c, getkV e (by decide), hE.row (by decide) h⟩ | (obtain ⟨e2, h⟩ := h; first | exact ⟨A, c, getkV e (by decide), getkV e2 (by decide), (h.below hE (Nat.le_refl _)).wide (Nat.le_refl _) hE.size⟩ | exact ⟨A, c, getkV e (by decide), getkV e2 (by decide), hE.row (by decide) h⟩ | (obtain ⟨h3, h4⟩ := h; first | exact ⟨A, c, getkV e (by decide), e2, h3, h4.below hE h4.lt⟩ | (obtain ⟨c', h5, h6⟩ := hE.box h4; exact ⟨A, c', getkV e (by decide), e2, h5.trans h3, h6⟩)))) | (obtain ⟨qq, A, c, e, e2, h3, h4⟩ := h; exact ⟨qq, A, c, getkV e (by decide), getkV e2 (by decide), h3, h4.below hE h4.lt⟩)) | exact absurd rfl (hdep _ rfl ⟨2, .data⟩ (by simp) rfl)
      · rcases hi with rfl | rfl | rfl | rfl | rfl | rfl | rfl | rfl | rfl | rfl | rfl | rfl | rfl | rfl | rfl | rfl | rfl
        all_goals first | exact absurd rfl hij | (simp only at hE h ⊢; first | exact getkV h (by decide) | (obtain ⟨A, c, e, h⟩ := h; first | exact ⟨A, c, getkV e (by decide), (h.below hE (Nat.le_refl _)).wide (Nat.le_refl _) hE.size⟩ | exact ⟨A, c, getkV e (by decide), hE.row (by decide) h⟩ | (obtain ⟨e2, h⟩ := h; first | exact ⟨A, c, getkV e (by decide), getkV e2 (by decide), (h.below hE (Nat.le_refl _)).wide (Nat.le_refl _) hE.size⟩ | exact ⟨A, c, getkV e (by decide), getkV e2 (by decide), hE.row (by decide) h⟩ | (obtain ⟨h3, h4⟩ := h; first | exact ⟨A, c, getkV e (by decide), e2, h3, h4.below hE h4.lt⟩ | (obtain ⟨c', h5, h6⟩ := hE.box h4; exact ⟨A, c', getkV e (by decide), e2, h5.trans h3, h6⟩)))) | (obtain ⟨qq, A, c, e, e2, h3, h4⟩ := h; exact ⟨qq, A, c, getkV e (by decide), getkV e2 (by decide), h3, h4.below hE h4.lt⟩)) | exact absurd rfl (hdep _ rfl ⟨3, .data⟩ (by simp) rfl)
      · rcases hi with rfl | rfl | rfl | rfl | rfl | rfl | rfl | rfl | rfl | rfl | rfl | rfl | rfl | rfl | rfl | rfl | rfl
        all_goals first | exact absurd rfl hij | (simp only at hE h ⊢; first | exact getkV h (by decide) | (obtain ⟨A, c, e, h⟩ := h; first | exact ⟨A, c, getkV e (by decide), (h.below hE (Nat.le_refl _)).wide (Nat.le_refl _) hE.size⟩ | exact ⟨A, c, getkV e (by decide), hE.row (by decide) h⟩ | (obtain ⟨e2, h⟩ := h; first | exact ⟨A, c, getkV e (by decide), getkV e2 (by decide), (h.below hE (Nat.le_refl _)).wide (Nat.le_refl _) hE.size⟩ | exact ⟨A, c, getkV e (by decide), getkV e2 (by decide), hE.row (by decide) h⟩ | (obtain ⟨h3, h4⟩ := h; first | exact ⟨A, c, getkV e (by decide), e2, h3, h4.below hE h4.lt⟩ | (obtain ⟨c', h5, h6⟩ := hE.box h4; exact ⟨A, c', getkV e (by decide), e2, h5.trans h3, h6⟩)))) | (obtain ⟨qq, A, c, e, e2, h3, h4⟩ := h; exact ⟨qq, A, c, getkV e (by decide), getkV e2 (by decide), h3, h4.below hE h4.lt⟩)) | exact absurd rfl (hdep _ rfl ⟨4, .data⟩ (by simp) rfl)
      · rcases hi with rfl | rfl | rfl | rfl | rfl | rfl | rfl | rfl | rfl | rfl | rfl | rfl | rfl | rfl | rfl | rfl | rfl
        all_goals first | exact absurd rfl hij | (simp only at hE h ⊢; first | exact getkV h (by decide) | (obtain ⟨A, c, e, h⟩ := h; first | exact ⟨A, c, getkV e (by decide), (h.below hE (Nat.le_refl _)).wide (Nat.le_refl _) hE.size⟩ | exact ⟨A, c, getkV e (by decide), hE.row (by decide) h⟩ | (obtain ⟨e2, h⟩ := h; first | exact ⟨A, c, getkV e (by decide), getkV e2 (by decide), (h.below hE (Nat.le_refl _)).wide (Nat.le_refl _) hE.size⟩ | exact ⟨A, c, getkV e (by decide), getkV e2 (by decide), hE.row (by decide) h⟩ | (obtain ⟨h3, h4⟩ := h; first | exact ⟨A, c, getkV e (by decide), e2, h3, h4.below hE h4.lt⟩ | (obtain ⟨c', h5, h6⟩ := hE.box h4; exact ⟨A, c', getkV e (by decide), e2, h5.trans h3, h6⟩)))) | (obtain ⟨qq, A, c, e, e2, h3, h4⟩ := h; exact ⟨qq, A, c, getkV e (by decide), getkV e2 (by decide), h3, h4.below hE h4.lt⟩)) | exact absurd rfl (hdep _ rfl ⟨5, .data⟩ (by simp) rfl)
      · rcases hi with rfl | rfl | rfl | rfl | rfl | rfl | rfl | rfl | rfl | rfl | rfl | rfl | rfl | rfl | rfl | rfl | rfl
        all_goals first | exact absurd rfl hij | (simp only at hE h ⊢; first | exact getkV h (by decide) | (obtain ⟨A, c, e, h⟩ := h; first | exact ⟨A, c, getkV e (by decide), (h.below hE (Nat.le_refl _)).wide (Nat.le_refl _) hE.size⟩ | exact ⟨A, c, getkV e (by decide), hE.row (by decide) h⟩ | (obtain ⟨e2, h⟩ := h; first | exact ⟨A, c, getkV e (by decide), getkV e2 (by decide), (h.below hE (Nat.le_refl _)).wide (Nat.le_refl _) hE.size⟩ | exact ⟨A, c, getkV e (by decide), getkV e2 (by decide), hE.row (by decide) h⟩ | (obtain ⟨h3, h4⟩ := h; first | exact ⟨A, c, getkV e (by decide), e2, h3, h4.below hE h4.lt⟩ | (obtain ⟨c', h5, h6⟩ := hE.box h4; exact ⟨A, c', getkV e (by decide), e2, h5.trans h3, h6⟩)))) | (obtain ⟨qq, A, c, e, e2, h3, h4⟩ := h; exact ⟨qq, A, c, getkV e (by decide), getkV e2 (by decide), h3, h4.below hE h4.lt⟩)) | exact absurd rfl (hdep _ rfl ⟨6, .data⟩ (by simp) rfl)
      · rcases hi with rfl | rfl | rfl | rfl | rfl | rfl | rfl | rfl | rfl | rfl | rfl | rfl | rfl | rfl | rfl | rfl | rfl
        all_goals first | exact absurd rfl hij | (simp only at hE h ⊢; first | exact getkV h (by decide) | (obtain ⟨A, c, e, h⟩ := h; first | exact ⟨A, c, getkV e (by decide), (h.below hE (Nat.le_refl _)).wide (Nat.le_refl _) hE.size⟩ | exact ⟨A, c, getkV e (by decide), hE.row (by decide) h⟩ | (obtain ⟨e2, h⟩ := h; first | exact ⟨A, c, getkV e (by decide), getkV e2 (by decide), (h.below hE (Nat.le_refl _)).wide (Nat.le_refl _) hE.size⟩ | exact ⟨A, c, getkV e (by decide), getkV e2 (by decide), hE.row (by decide) h⟩ | (obtain ⟨h3, h4⟩ := h; first | exact ⟨A, c, getkV e (by decide), e2, h3, h4.below hE h4.lt⟩ | (obtain ⟨c', h5, h6⟩ := hE.box h4; exact ⟨A, c', getkV e (by decide), e2, h5.trans h3, h6⟩)))) | (obtain ⟨qq, A, c, e, e2, h3, h4⟩ := h; exact ⟨qq, A, c, getkV e (by decide), getkV e2 (by decide), h3, h4.below hE h4.lt⟩)) | exact absurd rfl (hdep _ rfl ⟨7, .data⟩ (by simp) rfl)
      · rcases hi with rfl | rfl | rfl | rfl | rfl | rfl | rfl | rfl | rfl | rfl | rfl | rfl | rfl | rfl | rfl | rfl | rfl
        all_goals first | exact absurd rfl hij | (simp only at hE h ⊢; first | exact getkV h (by decide) | (obtain ⟨A, c, e, h⟩ := h; first | exact ⟨A, c, getkV e (by decide), (h.below hE (Nat.le_refl _)).wide (Nat.le_refl _) hE.size⟩ | exact ⟨A, c, getkV e (by decide), hE.row (by decide) h⟩ | (obtain ⟨e2, h⟩ := h; first | exact ⟨A, c, getkV e (by decide), getkV e2 (by decide), (h.below hE (Nat.le_refl _)).wide (Nat.le_refl _) hE.size⟩ | exact ⟨A, c, getkV e (by decide), getkV e2 (by decide), hE.row (by decide) h⟩ | (obtain ⟨h3, h4⟩ := h; first | exact ⟨A, c, getkV e (by decide), e2, h3, h4.below hE h4.lt⟩ | (obtain ⟨c', h5, h6⟩ := hE.box h4; exact ⟨A, c', getkV e (by decide), e2, h5.trans h3, h6⟩)))) | (obtain ⟨qq, A, c, e, e2, h3, h4⟩ := h; exact ⟨qq, A, c, getkV e (by decide), getkV e2 (by decide), h3, h4.below hE h4.lt⟩)) | exact absurd rfl (hdep _ rfl ⟨8, .data⟩ (by simp) rfl)
      · rcases hi with rfl | rfl | rfl | rfl | rfl | rfl | rfl | rfl | rfl | rfl | rfl | rfl | rfl | rfl | rfl | rfl | rfl
        all_goals first | exact absurd rfl hij | (simp only at hE h ⊢; first | exact getkV h (by decide) | (obtain ⟨A, c, e, h⟩ := h; first | exact ⟨A, c, getkV e (by decide), (h.below hE (Nat.le_refl _)).wide (Nat.le_refl _) hE.size⟩ | exact ⟨A, c, getkV e (by decide), hE.row (by decide) h⟩ | (obtain ⟨e2, h⟩ := h; first | exact ⟨A, c, getkV e (by decide), getkV e2 (by decide), (h.below hE (Nat.le_refl _)).wide (Nat.le_refl _) hE.size⟩ | exact ⟨A, c, getkV e (by decide), getkV e2 (by decide), hE.row (by decide) h⟩ | (obtain ⟨h3, h4⟩ := h; first | exact ⟨A, c, getkV e (by decide), e2, h3, h4.below hE h4.lt⟩ | (obtain ⟨c', h5, h6⟩ := hE.box h4; exact ⟨A, c', getkV e (by decide), e2, h5.trans h3, h6⟩)))) | (obtain ⟨qq, A, c, e, e2, h3, h4⟩ := h; exact ⟨qq, A, c, getkV e (by decide), getkV e2 (by decide), h3, h4.below hE h4.lt⟩)) | exact absurd rfl (hdep _ rfl ⟨9, .data⟩ (by simp) rfl)
      · rcases hi with rfl | rfl | rfl | rfl | rfl | rfl | rfl | rfl | rfl | rfl | rfl | rfl | rfl | rfl | rfl | rfl | rfl
        all_goals first | exact absurd rfl hij | (simp only at hE h ⊢; first | exact getkV h (by decide) | (obtain ⟨A, c, e, h⟩ := h; first | exact ⟨A, c, getkV e (by decide), (h.below hE (Nat.le_refl _)).wide (Nat.le_refl _) hE.size⟩ | exact ⟨A, c, getkV e (by decide), hE.row (by decide) h⟩ | (obtain ⟨e2, h⟩ := h; first | exact ⟨A, c, getkV e (by decide), getkV e2 (by decide), (h.below hE (Nat.le_refl _)).wide (Nat.le_refl _) hE.size⟩ | exact ⟨A, c, getkV e (by decide), getkV e2 (by decide), hE.row (by decide) h⟩ | (obtain ⟨h3, h4⟩ := h; first | exact ⟨A, c, getkV e (by decide), e2, h3, h4.below hE h4.lt⟩ | (obtain ⟨c', h5, h6⟩ := hE.box h4; exact ⟨A, c', getkV e (by decide), e2, h5.trans h3, h6⟩)))) | (obtain ⟨qq, A, c, e, e2, h3, h4⟩ := h; exact ⟨qq, A, c, getkV e (by decide), getkV e2 (by decide), h3, h4.below hE h4.lt⟩)) | exact absurd rfl (hdep _ rfl ⟨10, .data⟩ (by simp) rfl)
      · rcases hi with rfl | rfl | rfl | rfl | rfl | rfl | rfl | rfl | rfl | rfl | rfl | rfl | rfl | rfl | rfl | rfl | rfl
        all_goals first | exact absurd rfl hij | (simp only at hE h ⊢; first | exact getkV h (by decide) | (obtain ⟨A, c, e, h⟩ := h; first | exact ⟨A, c, getkV e (by decide), (h.below hE (Nat.le_refl _)).wide (Nat.le_refl _) hE.size⟩ | exact ⟨A, c, getkV e (by decide), hE.row (by decide) h⟩ | (obtain ⟨e2, h⟩ := h; first | exact ⟨A, c, getkV e (by decide), getkV e2 (by decide), (h.below hE (Nat.le_refl _)).wide (Nat.le_refl _) hE.size⟩ | exact ⟨A, c, getkV e (by decide), getkV e2 (by decide), hE.row (by decide) h⟩ | (obtain ⟨h3, h4⟩ := h; first | exact ⟨A, c, getkV e (by decide), e2, h3, h4.below hE h4.lt⟩ | (obtain ⟨c', h5, h6⟩ := hE.box h4; exact ⟨A, c', getkV e (by decide), e2, h5.trans h3, h6⟩)))) | (obtain ⟨qq, A, c, e, e2, h3, h4⟩ := h; exact ⟨qq, A, c, getkV e (by decide), getkV e2 (by decide), h3, h4.below hE h4.lt⟩)) | exact absurd rfl (hdep _ rfl ⟨11, .data⟩ (by simp) rfl)
      · rcases hi with rfl | rfl | rfl | rfl | rfl | rfl | rfl | rfl | rfl | rfl | rfl | rfl | rfl | rfl | rfl | rfl | rfl
        all_goals first | exact absurd rfl hij | (simp only at hE h ⊢; first | exact getkV h (by decide) | (obtain ⟨A, c, e, h⟩ := h; first | exact ⟨A, c, getkV e (by decide), (h.below hE (Nat.le_refl _)).wide (Nat.le_refl _) hE.size⟩ | exact ⟨A, c, getkV e (by decide), hE.row (by decide) h⟩ | (obtain ⟨e2, h⟩ := h; first | exact ⟨A, c, getkV e (by decide), getkV e2 (by decide), (h.below hE (Nat.le_refl _)).wide (Nat.le_refl _) hE.size⟩ | exact ⟨A, c, getkV e (by decide), getkV e2 (by decide), hE.row (by decide) h⟩ | (obtain ⟨h3, h4⟩ := h; first | exact ⟨A, c, getkV e (by decide), e2, h3, h4.below hE h4.lt⟩ | (obtain ⟨c', h5, h6⟩ := hE.box h4; exact ⟨A, c', getkV e (by decide), e2, h5.trans h3, h6⟩)))) | (obtain ⟨qq, A, c, e, e2, h3, h4⟩ := h; exact ⟨qq, A, c, getkV e (by decide), getkV e2 (by decide), h3, h4.below hE h4.lt⟩)) | exact absurd rfl (hdep _ rfl ⟨12, .data⟩ (by simp) rfl)
      · rcases hi with rfl | rfl | rfl | rfl | rfl | rfl | rfl | rfl | rfl | rfl | rfl | rfl | rfl | rfl | rfl | rfl | rfl
        all_goals first | exact absurd rfl hij | (simp only at hE h ⊢; first | exact getkV h (by decide) | (obtain ⟨A, c, e, h⟩ := h; first | exact ⟨A, c, getkV e (by decide), (h.below hE (Nat.le_refl _)).wide (Nat.le_refl _) hE.size⟩ | exact ⟨A, c, getkV e (by decide), hE.row (by decide) h⟩ | (obtain ⟨e2, h⟩ := h; first | exact ⟨A, c, getkV e (by decide), getkV e2 (by decide), (h.below hE (Nat.le_refl _)).wide (Nat.le_refl _) hE.size⟩ | exact ⟨A, c, getkV e (by decide), getkV e2 (by decide), hE.row (by decide) h⟩ | (obtain ⟨h3, h4⟩ := h; first | exact ⟨A, c, getkV e (by decide), e2, h3, h4.below hE h4.lt⟩ | (obtain ⟨c', h5, h6⟩ := hE.box h4; exact ⟨A, c', getkV e (by decide), e2, h5.trans h3, h6⟩)))) | (obtain ⟨qq, A, c, e, e2, h3, h4⟩ := h; exact ⟨qq, A, c, getkV e (by decide), getkV e2 (by decide), h3, h4.below hE h4.lt⟩)) | exact absurd rfl (hdep _ rfl ⟨13, .data⟩ (by simp) rfl)
      · rcases hi with rfl | rfl | rfl | rfl | rfl | rfl | rfl | rfl | rfl | rfl | rfl | rfl | rfl | rfl | rfl | rfl | rfl
        all_goals first | exact absurd rfl hij | (simp only at hE h ⊢; first | exact getkV h (by decide) | (obtain ⟨A, c, e, h⟩ := h; first | exact ⟨A, c, getkV e (by decide), (h.below hE (Nat.le_refl _)).wide (Nat.le_refl _) hE.size⟩ | exact ⟨A, c, getkV e (by decide), hE.row (by decide) h⟩ | (obtain ⟨e2, h⟩ := h; first | exact ⟨A, c, getkV e (by decide), getkV e2 (by decide), (h.below hE (Nat.le_refl _)).wide (Nat.le_refl _) hE.size⟩ | exact ⟨A, c, getkV e (by decide), getkV e2 (by decide), hE.row (by decide) h⟩ | (obtain ⟨h3, h4⟩ := h; first | exact ⟨A, c, getkV e (by decide), e2, h3, h4.below hE h4.lt⟩ | (obtain ⟨c', h5, h6⟩ := hE.box h4; exact ⟨A, c', getkV e (by decide), e2, h5.trans h3, h6⟩)))) | (obtain ⟨qq, A, c, e, e2, h3, h4⟩ := h; exact ⟨qq, A, c, getkV e (by decide), getkV e2 (by decide), h3, h4.below hE h4.lt⟩)) | exact absurd rfl (hdep _ rfl ⟨14, .data⟩ (by simp) rfl)
      · rcases hi with rfl | rfl | rfl | rfl | rfl | rfl | rfl | rfl | rfl | rfl | rfl | rfl | rfl | rfl | rfl | rfl | rfl
        all_goals first | exact absurd rfl hij | (simp only at hE h ⊢; first | exact getkV h (by decide) | (obtain ⟨A, c, e, h⟩ := h; first | exact ⟨A, c, getkV e (by decide), (h.below hE (Nat.le_refl _)).wide (Nat.le_refl _) hE.size⟩ | exact ⟨A, c, getkV e (by decide), hE.row (by decide) h⟩ | (obtain ⟨e2, h⟩ := h; first | exact ⟨A, c, getkV e (by decide), getkV e2 (by decide), (h.below hE (Nat.le_refl _)).wide (Nat.le_refl _) hE.size⟩ | exact ⟨A, c, getkV e (by decide), getkV e2 (by decide), hE.row (by decide) h⟩ | (obtain ⟨h3, h4⟩ := h; first | exact ⟨A, c, getkV e (by decide), e2, h3, h4.below hE h4.lt⟩ | (obtain ⟨c', h5, h6⟩ := hE.box h4; exact ⟨A, c', getkV e (by decide), e2, h5.trans h3, h6⟩)))) | (obtain ⟨qq, A, c, e, e2, h3, h4⟩ := h; exact ⟨qq, A, c, getkV e (by decide), getkV e2 (by decide), h3, h4.below hE h4.lt⟩)) | exact absurd rfl (hdep _ rfl ⟨15, .data⟩ (by simp) rfl)
      · rcases hi with rfl | rfl | rfl | rfl | rfl | rfl | rfl | rfl | rfl | rfl | rfl | rfl | rfl | rfl | rfl | rfl | rfl
        all_goals first | exact absurd rfl hij | (simp only at hE h ⊢; first | exact getkV h (by decide) | (obtain ⟨A, c, e, h⟩ := h; first | exact ⟨A, c, getkV e (by decide), (h.below hE (Nat.le_refl _)).wide (Nat.le_refl _) hE.size⟩ | exact ⟨A, c, getkV e (by decide), hE.row (by decide) h⟩ | (obtain ⟨e2, h⟩ := h; first | exact ⟨A, c, getkV e (by decide), getkV e2 (by decide), (h.below hE (Nat.le_refl _)).wide (Nat.le_refl _) hE.size⟩ | exact ⟨A, c, getkV e (by decide), getkV e2 (by decide), hE.row (by decide) h⟩ | (obtain ⟨h3, h4⟩ := h; first | exact ⟨A, c, getkV e (by decide), e2, h3, h4.below hE h4.lt⟩ | (obtain ⟨c', h5, h6⟩ := hE.box h4; exact ⟨A, c', getkV e (by decide), e2, h5.trans h3, h6⟩)))) | (obtain ⟨qq, A, c, e, e2, h3, h4⟩ := h; exact ⟨qq, A, c, getkV e (by decide), getkV e2 (by decide), h3, h4.below hE h4.lt⟩)) | exact absurd rfl (hdep _ rfl ⟨16, .data⟩ (by simp) rfl)
    · intro j o hj ho a' w' hC hsame hdep
      have hz : v22.heap.size ≤ w'.heap.size := hC.size
      simp only [List.mem_cons, List.not_mem_nil, or_false] at hj
      rcases hj with rfl | rfl | rfl | rfl | rfl | rfl | rfl | rfl | rfl | rfl | rfl | rfl | rfl | rfl | rfl | rfl | rfl
      all_goals obtain rfl := Option.some.inj ho
      · have hss : a'.tmps.getD 6 undef = .pointer (some ⟨w.heap.size, 0, none⟩) := hsame 6 (by rfl)
        have zz : ∀ o, w'.cell? ⟨w.heap.size, o, none⟩ = _ := fun o => (hC.cell (p := ⟨w.heap.size, o, none⟩) (by show w.heap.size < v22.heap.size; omega)).trans (ceXT o)
        refine wp_val (w2 := w') (.agg #[.int .i64 per, .int .i64 sl]) (fun K hK => ?_) ⟨_, rfl, hC, Below.refl _ _, fun b hb _ => hb 137 rfl⟩
        clear hsame hdep
        unfold Oper.wp
        simp [execOp, Act.eval, hss, go_sem, zz]
        exact hK
      · have e1 : a'.tmps.getD 137 undef = .agg #[.int .i64 per, .int .i64 sl] := hdep ⟨0, .data⟩ (by simp) rfl
        refine wp_call (fun u w2 => u = .agg #[.int .i64 per, .int .i64 sl] ∧ Below w'.heap.size w' w2) (fun K hK => ?_) ?_
        · clear hsame hdep
          unfold Oper.wp
          simp [Act.eval, e1, go_sem]
          refine (toTrust_any per sl _).mono ?_
          rintro e w3 ⟨rfl, hb3⟩
          exact hK _ _ ⟨rfl, hb3⟩
        · rintro u w3 ⟨rfl, hb3⟩
          exact ⟨_, rfl, hC.trans (hb3.mono hz), hb3, fun b hb _ => hb 138 rfl⟩
      · have hss : a'.tmps.getD 7 undef = .pointer (some ⟨w.heap.size + 1, 0, none⟩) := hsame 7 (by rfl)
        have zz : ∀ o, w'.cell? ⟨w.heap.size + 1, o, none⟩ = _ := fun o => (hC.cell (p := ⟨w.heap.size + 1, o, none⟩) (by show w.heap.size + 1 < v22.heap.size; omega)).trans (ceXA o)
        refine wp_val (w2 := w') (.agg #[.int .i64 sa.h, .int .i64 sa.t, .string sa.last, .string sa.vals, .string sa.next, .string sa.data, .slice A al.length c]) (fun K hK => ?_) ⟨_, rfl, hC, Below.refl _ _, fun b hb _ => hb 139 rfl⟩
        clear hsame hdep
        unfold Oper.wp
        simp [execOp, Act.eval, hss, go_sem, zz]
        exact hK
      · have e1 : a'.tmps.getD 139 undef = .agg #[.int .i64 sa.h, .int .i64 sa.t, .string sa.last, .string sa.vals, .string sa.next, .string sa.data, .slice A al.length c] := hdep ⟨2, .data⟩ (by simp) rfl
        have hrr := (((HA.out.below B22.out (Nat.le_refl _)).more B22.out.size).below hC (Nat.le_refl _)).more hz
        refine wp_call (fun u w2 => ∃ A2 c2, u = .agg #[.int .i64 sa.h, .int .i64 sa.t, .string sa.last, .string sa.vals, .string sa.next, .string sa.data, .slice A2 al.length c2] ∧ OwnL valC 2 84 w2 w'.heap.size w2.heap.size A2 al.length c2 al ∧ Below w'.heap.size w' w2) (fun K hK => ?_) ?_
        · clear hsame hdep
          unfold Oper.wp
          simp [Act.eval, e1, go_sem]
          refine (toAnchor_any sa A _ c al _ hrr (by omega)).mono ?_
          rintro e w3 ⟨A7, n7, c7, rfl, ho3, hb3⟩
          obtain rfl : al.length = n7 := ho3.1
          exact hK _ _ ⟨A7, c7, rfl, ho3, hb3⟩
        · rintro u w3 ⟨A7, c7, rfl, ho3, hb3⟩
          exact ⟨_, rfl, hC.trans (hb3.mono hz), hb3, fun b hb _ => ⟨A7, c7, hb 140 rfl, ho3.wide hz (Nat.le_refl _)⟩⟩
      · have hss : a'.tmps.getD 8 undef = .pointer (some ⟨w.heap.size + 1 + 1, 0, none⟩) := hsame 8 (by rfl)
        have zz : ∀ o, w'.cell? ⟨w.heap.size + 1 + 1, o, none⟩ = _ := fun o => (hC.cell (p := ⟨w.heap.size + 1 + 1, o, none⟩) (by show w.heap.size + 1 + 1 < v22.heap.size; omega)).trans (ceXH o)
        refine wp_val (w2 := w') (.agg #[.int .i64 sh.h, .int .i64 sh.t, .string sh.last, .string sh.vals, .string sh.next, .string sh.data]) (fun K hK => ?_) ⟨_, rfl, hC, Below.refl _ _, fun b hb _ => hb 141 rfl⟩
        clear hsame hdep
        unfold Oper.wp
        simp [execOp, Act.eval, hss, go_sem, zz]
        exact hK
      · have e1 : a'.tmps.getD 141 undef = .agg #[.int .i64 sh.h, .int .i64 sh.t, .string sh.last, .string sh.vals, .string sh.next, .string sh.data] := hdep ⟨4, .data⟩ (by simp) rfl
        refine wp_call (fun u w2 => u = .agg #[.int .i64 sh.h, .int .i64 sh.t, .string sh.last, .string sh.vals, .string sh.next, .string sh.data] ∧ Below w'.heap.size w' w2) (fun K hK => ?_) ?_
        · clear hsame hdep
          unfold Oper.wp
          simp [Act.eval, e1, go_sem]
          refine (toHeader_any _ _ _ _ _ _ _).mono ?_
          rintro e w3 ⟨rfl, hb3⟩
          exact hK _ _ ⟨rfl, hb3⟩
        · rintro u w3 ⟨rfl, hb3⟩
          exact ⟨_, rfl, hC.trans (hb3.mono hz), hb3, fun b hb _ => hb 142 rfl⟩
      · have hss : a'.tmps.getD 3 undef = .slice B nl.length d := hsame 3 (by rfl)
        refine wp_val (w2 := w') (.slice B nl.length d) (fun K hK => ?_) ⟨_, rfl, hC, Below.refl _ _, fun b hb _ => hb 143 rfl⟩
        clear hsame hdep
        unfold Oper.wp
        simp [execOp, Act.eval, hss, go_sem]
        exact hK
      · have e1 : a'.tmps.getD 143 undef = .slice B nl.length d := hdep ⟨6, .data⟩ (by simp) rfl
        have hrr := (((HN.out.below B22.out (Nat.le_refl _)).more B22.out.size).below hC (Nat.le_refl _)).more hz
        refine wp_call (fun u w2 => ∃ A2 c2, u = .slice A2 nl.length c2 ∧ OwnL valC 2 84 w2 w'.heap.size w2.heap.size A2 nl.length c2 nl ∧ Below w'.heap.size w' w2) (fun K hK => ?_) ?_
        · clear hsame hdep
          unfold Oper.wp
          simp [Act.eval, e1, go_sem]
          refine (toValS_own B _ d nl _ hrr (by omega)).mono ?_
          rintro e w3 ⟨A7, c7, rfl, ho3, hb3⟩
          exact hK _ _ ⟨A7, c7, rfl, ho3, hb3⟩
        · rintro u w3 ⟨A7, c7, rfl, ho3, hb3⟩
          exact ⟨_, rfl, hC.trans (hb3.mono hz), hb3, fun b hb _ => ⟨A7, c7, hb 144 rfl, ho3.wide hz (Nat.le_refl _)⟩⟩
      · have hss : a'.tmps.getD 10 undef = .pointer (some ⟨w.heap.size + 1 + 1 + 1, 0, none⟩) := hsame 10 (by rfl)
        have zz : ∀ o, w'.cell? ⟨w.heap.size + 1 + 1 + 1, o, none⟩ = _ := fun o => (hC.cell (p := ⟨w.heap.size + 1 + 1 + 1, o, none⟩) (by show w.heap.size + 1 + 1 + 1 < v22.heap.size; omega)).trans (ceXC o)
        refine wp_val (w2 := w') (.agg #[.int .i64 pc.h, .int .i64 pc.r, .string pc.id, .slice D sg.length q]) (fun K hK => ?_) ⟨_, rfl, hC, Below.refl _ _, fun b hb _ => hb 145 rfl⟩
        clear hsame hdep
        unfold Oper.wp
        simp [execOp, Act.eval, hss, go_sem, zz]
        exact hK
      · have e1 : a'.tmps.getD 145 undef = .agg #[.int .i64 pc.h, .int .i64 pc.r, .string pc.id, .slice D sg.length q] := hdep ⟨8, .data⟩ (by simp) rfl
        have hrr := (((HS.out.below B22.out (Nat.le_refl _)).more B22.out.size).below hC (Nat.le_refl _)).more hz
        refine wp_call (fun u w2 => ∃ A2 c2, u = .agg #[.int .i64 pc.h, .int .i64 pc.r, .string pc.id, .slice A2 sg.length c2] ∧ OwnL csigC 2 91 w2 w'.heap.size w2.heap.size A2 sg.length c2 sg ∧ Below w'.heap.size w' w2) (fun K hK => ?_) ?_
        · clear hsame hdep
          unfold Oper.wp
          simp [Act.eval, e1, go_sem]
          refine (toCommit_any pc D _ q sg _ hrr (by omega)).mono ?_
          rintro e w3 ⟨A7, n7, c7, rfl, ho3, hb3⟩
          obtain rfl : sg.length = n7 := ho3.1
          exact hK _ _ ⟨A7, c7, rfl, ho3, hb3⟩
        · rintro u w3 ⟨A7, c7, rfl, ho3, hb3⟩
          exact ⟨_, rfl, hC.trans (hb3.mono hz), hb3, fun b hb _ => ⟨A7, c7, hb 146 rfl, ho3.wide hz (Nat.le_refl _)⟩⟩
      · have hss : a'.tmps.getD 5 undef = .int .i64 now := hsame 5 (by rfl)
        refine wp_val (w2 := w') (.int .i64 now) (fun K hK => ?_) ⟨_, rfl, hC, Below.refl _ _, fun b hb _ => hb 147 rfl⟩
        clear hsame hdep
        unfold Oper.wp
        simp [execOp, Act.eval, hss, go_sem]
        exact hK
      · have e1 : a'.tmps.getD 138 undef = .agg #[.int .i64 per, .int .i64 sl] := hdep ⟨1, .data⟩ (by simp) rfl
        have e3 : a'.tmps.getD 142 undef = .agg #[.int .i64 sh.h, .int .i64 sh.t, .string sh.last, .string sh.vals, .string sh.next, .string sh.data] := hdep ⟨5, .data⟩ (by simp) rfl
        have e6 : a'.tmps.getD 147 undef = .int .i64 now := hdep ⟨10, .data⟩ (by simp) rfl
        obtain ⟨A2, c2, e2, ho2⟩ := hdep ⟨3, .data⟩ (by simp) rfl
        obtain ⟨A4, c4, e4, ho4⟩ := hdep ⟨7, .data⟩ (by simp) rfl
        obtain ⟨A5, c5, e5, ho5⟩ := hdep ⟨9, .data⟩ (by simp) rfl
        refine wp_call (fun u w2 => ∃ A c, u = .tuple #[.agg #[.int .i64 rhd.h, .int .i64 rhd.t, .string rhd.last, .string rhd.vals, .string rhd.next, .string rhd.data, .slice A ls.length c], .int .i64 r] ∧ OwnL valC 2 84 w2 w'.heap.size w2.heap.size A ls.length c ls ∧ Below w'.heap.size w' w2) (fun K hK => ?_) ?_
        · clear hsame hdep
          unfold Oper.wp
          simp [Act.eval, e1, e2, e3, e4, e5, e6, go_sem]
          refine ((HIM _ A2 c2 A4 c4 A5 c5 (ho2.rd valC_len) (ho4.rd valC_len) (ho5.rd csigC_len) hAL hNL ((HT.out.below B22.out htp).below hC (by omega))).out).mono ?_
          rintro e w3 ⟨A7, c7, rfl, ho3, hb3⟩
          exact hK _ _ ⟨A7, c7, rfl, ho3, hb3⟩
        · rintro u w3 ⟨A7, c7, rfl, ho3, hb3⟩
          exact ⟨_, rfl, hC.trans (hb3.mono hz), hb3, fun b hb _ => ⟨A7, c7, hb 148 rfl, ho3.wide hz (Nat.le_refl _)⟩⟩
      · obtain ⟨A7, c7, e1, hrr⟩ := hdep ⟨11, .data⟩ (by simp) rfl
        refine wp_val (w2 := w') (.tuple #[.agg #[.int .i64 rhd.h, .int .i64 rhd.t, .string rhd.last, .string rhd.vals, .string rhd.next, .string rhd.data, .slice A7 ls.length c7], .int .i64 r]) (fun K hK => ?_) ⟨_, rfl, hC, Below.refl _ _, fun b hb _ => ⟨A7, c7, hb 136 rfl, hrr⟩⟩
        clear hsame hdep hrr
        unfold Oper.wp
        simp [execOp, Act.eval, e1, go_sem]
        exact hK
      · obtain ⟨A7, c7, e1, hrr⟩ := hdep ⟨12, .data⟩ (by simp) rfl
        refine wp_val (w2 := w') (.agg #[.int .i64 rhd.h, .int .i64 rhd.t, .string rhd.last, .string rhd.vals, .string rhd.next, .string rhd.data, .slice A7 ls.length c7]) (fun K hK => ?_) ⟨_, rfl, hC, Below.refl _ _, fun b hb hb2 => ⟨A7, c7, (hb2 136 (by intro d h; cases h; decide)).trans e1, hb 149 rfl, hrr⟩⟩
        clear hsame hdep hrr
        unfold Oper.wp
        simp [execOp, Act.eval, e1, go_sem]
        exact hK
      · obtain ⟨A7, c7, e1, hrr⟩ := hdep ⟨12, .data⟩ (by simp) rfl
        refine wp_val (w2 := w') (.int .i64 r) (fun K hK => ?_) ⟨_, rfl, hC, Below.refl _ _, fun b hb hb2 => hb 150 rfl⟩
        clear hsame hdep hrr
        unfold Oper.wp
        simp [execOp, Act.eval, e1, go_sem]
        exact hK
      · refine wp_val (w2 := w'.alloc (.cells #[.int .i64 0, .int .i64 0, .string ⟨#[]⟩, .string ⟨#[]⟩, .string ⟨#[]⟩, .string ⟨#[]⟩, .slice none 0 0] 30)) (.pointer (some ⟨w'.heap.size, 0, none⟩)) (fun K hK => ?_) ⟨_, rfl, hC.alloc hz _, (Below.refl _ _).alloc (Nat.le_refl _) _, fun b hb _ => ⟨w'.heap.size, _, hb 24 rfl, hz, by rfl, heap_alloc_new w' _⟩⟩
        clear hsame hdep
        unfold Oper.wp
        simp [execOp, go_sem]
        exact hK
      · obtain ⟨q0, cs0, e1, hq0, hsz, hblk⟩ := hdep ⟨15, .data⟩ (by simp) rfl
        obtain ⟨A7, c7, e3, e2, hrr⟩ := hdep ⟨13, .data⟩ (by simp) rfl
        clear e3 hrr
        obtain ⟨lc⟩ := cs0
        obtain ⟨k0, k1, k2, k3, k4, k5, k6, rfl⟩ := list7 (l := lc) (by simpa using hsz)
        have f0 : w'.cell? ⟨q0, 0, none⟩ = some k0 := by rw [hblk.cell]; rfl
        have f1 : w'.cell? ⟨q0, 1, none⟩ = some k1 := by rw [hblk.cell]; rfl
        have f2 : w'.cell? ⟨q0, 2, none⟩ = some k2 := by rw [hblk.cell]; rfl
        have f3 : w'.cell? ⟨q0, 3, none⟩ = some k3 := by rw [hblk.cell]; rfl
        have f4 : w'.cell? ⟨q0, 4, none⟩ = some k4 := by rw [hblk.cell]; rfl
        have f5 : w'.cell? ⟨q0, 5, none⟩ = some k5 := by rw [hblk.cell]; rfl
        have f6 : w'.cell? ⟨q0, 6, none⟩ = some k6 := by rw [hblk.cell]; rfl
        have ff := hblk.frozen
        obtain ⟨w9, hw9⟩ : ∃ z, z = (((((((w'.setCell ⟨q0, 0, none⟩ (.int .i64 rhd.h)).setCell ⟨q0, 1, none⟩ (.int .i64 rhd.t)).setCell ⟨q0, 2, none⟩ (.string rhd.last)).setCell ⟨q0, 3, none⟩ (.string rhd.vals)).setCell ⟨q0, 4, none⟩ (.string rhd.next)).setCell ⟨q0, 5, none⟩ (.string rhd.data)).setCell ⟨q0, 6, none⟩ (.slice A7 ls.length c7)) := ⟨_, rfl⟩
        have hchg : Chg q0 (q0 + 1) w' w9 := by rw [hw9]; (repeat (first | with_reducible refine Chg.setCell ?_ (by first | exact Nat.le_refl _ | (simp; done) | (simp; omega)) (by first | (simp; done) | (simp; omega)) _ | with_reducible refine Chg.alloc ?_ _ | with_reducible refine Chg.drew ?_)); (with_reducible exact Chg.refl _ _ _)
        have hblk2 : Blk w9 q0 30 #[.int .i64 rhd.h, .int .i64 rhd.t, .string rhd.last, .string rhd.vals, .string rhd.next, .string rhd.data, .slice A7 ls.length c7] := by
          rw [hw9]
          have hb := (((((((hblk.set_ 0 (.int .i64 rhd.h)).set_ 1 (.int .i64 rhd.t)).set_ 2 (.string rhd.last)).set_ 3 (.string rhd.vals)).set_ 4 (.string rhd.next)).set_ 5 (.string rhd.data)).set_ 6 (.slice A7 ls.length c7))
          simp only [List.setIfInBounds_toArray, List.set_cons_zero, List.set_cons_succ] at hb
          exact hb
        have hturn := BoxTurn.of_blk hblk hblk2 rfl hchg
        have hcls := hC.trans (hchg.below hq0 hz)
        refine wp_val (w2 := w9) undef (fun K hK => ?_) ⟨_, rfl, hcls, hturn, fun b _ hb => ⟨q0, A7, c7, (hb 24 (by intro d h; cases h)).trans e1, (hb 149 (by intro d h; cases h)).trans e2, hq0, hblk2⟩⟩
        rw [hw9] at hK
        clear hsame hdep hchg hblk2 hturn hcls hw9
        unfold Oper.wp
        simp [execOp, Act.eval, e1, e2, go_sem, f0, f1, f2, f3, f4, f5, f6, ff]
        exact hK
    · intro a' w' hC ha hP
      obtain ⟨q0, A7, c7, e1, f1, hq0, hblk⟩ := hP 16 (by simp)
      obtain ⟨A8, c8, _, f2, hrr⟩ := hP 13 (by simp)
      have e4 : a'.tmps.getD 150 undef = .int .i64 r := hP 14 (by simp)
      clear hP
      have ex := f1.symm.trans f2
      simp only [Value.agg.injEq, Array.mk.injEq, List.cons.injEq, Value.slice.injEq, true_and, and_true] at ex
      obtain ⟨rfl, rfl⟩ := ex
      clear f2
      simp only [coreOps, List.filterMap_cons, List.filterMap_nil, List.getElem?_cons_zero, List.getElem?_cons_succ, fillA, slotOf, Act.put, e1, e4] at ha
      generalize a'.tmps.getD 137 undef = u137 at ha
      generalize a'.tmps.getD 138 undef = u138 at ha
      generalize a'.tmps.getD 139 undef = u139 at ha
      generalize a'.tmps.getD 140 undef = u140 at ha
      generalize a'.tmps.getD 141 undef = u141 at ha
      generalize a'.tmps.getD 142 undef = u142 at ha
      generalize a'.tmps.getD 143 undef = u143 at ha
      generalize a'.tmps.getD 144 undef = u144 at ha
      generalize a'.tmps.getD 145 undef = u145 at ha
      generalize a'.tmps.getD 146 undef = u146 at ha
      generalize a'.tmps.getD 147 undef = u147 at ha
      generalize a'.tmps.getD 148 undef = u148 at ha
      generalize a'.tmps.getD 136 undef = u136 at ha
      rw [f1] at ha
      subst ha
      show wpAny _ _ _ _ 1 _ _ _
      refine wpAny_ready (rs := [17]) (by kernel_rfl) (by simp) ?_
      refine AllReady.cons rfl (fun K hK => ?_) AllReady.nil
      go_simp
      refine hK _ _ ?_
      clear hK K
      refine wpAny_done (by kernel_rfl) ?_ _
      go_wp2_with fail
      go_meet
      obtain ⟨ga, gb, o3, b1, b2, b3, b4⟩ := hrr.apart hblk (by decide) hC.size
      exact ⟨q0, A7, c7, ga, gb, rfl, rfl, hq0, hblk, o3, b1, b2, b3, b4, hC⟩
  case rest =>
  obtain ⟨qh, Ah, ch, gah, gbh, rfl, rfl, hqh, hblk, ho, g1h, g2h, g3h, g4h, hb⟩ := hcut
  obtain ⟨v23, hwv⟩ : ∃ z, z = wc := ⟨_, rfl⟩
  subst hwv
  clear ceXT lbXT ceXA lbXA ceXH lbXH ceXC lbXC
  have hs23 := hb.size
  have XT23 := Lib.hid (XT22.out.below hb XT22.out.lt)
  have XA23 := Lib.hid (XA22.out.below hb XA22.out.lt)
  have XH23 := Lib.hid (XH22.out.below hb XH22.out.lt)
  have XC23 := Lib.hid (XC22.out.below hb XC22.out.lt)
  have B23 := Lib.hid (B22.out.trans (hb.mono B22.out.size))
  have XWa23 := Lib.hid (XWa22.out.below hb XWa22.out.lt)
  have OWa23 := Lib.hid (OWa22.out.below hb (by omega))
  have XX23 := Lib.hid (XX22.out.below hb XX22.out.lt)
  have XY23 := Lib.hid (XY22.out.below hb XY22.out.lt)
  have XWg23 := Lib.hid (XWg22.out.below hb XWg22.out.lt)
  have OWg23 := Lib.hid (OWg22.out.below hb (by omega))
  clear hb XT22 XA22 XH22 XC22 B22 XWa22 OWa22 XX22 XY22 XWg22 OWg22
  have XWh23 := Lib.hid hblk
  have OWh23 := Lib.hid ho
  have ltWh := hblk.lt
  clear hblk ho
  have ceXWh := XWh23.out.cell
  have lbXWh := XWh23.out.lt
  have ceXWa := XWa23.out.cell
  have lbXWa := XWa23.out.lt
  go_wp2_with fail
  refine (eqAnchor_same rhd Ah _ ch Aa ca ls _ ((OWh23.out.rd valC_len).more (by omega)) ((OWa23.out.rd valC_len).more (by omega))).mono ?_
  rintro e v24 ⟨rfl, hb⟩
  clear ceXWh lbXWh ceXWa lbXWa
  have hs24 := hb.size
  have XT24 := Lib.hid (XT23.out.below hb XT23.out.lt)
  have XA24 := Lib.hid (XA23.out.below hb XA23.out.lt)
  have XH24 := Lib.hid (XH23.out.below hb XH23.out.lt)
  have XC24 := Lib.hid (XC23.out.below hb XC23.out.lt)
  have B24 := Lib.hid (B23.out.trans (hb.mono B23.out.size))
  have XWa24 := Lib.hid (XWa23.out.below hb XWa23.out.lt)
  have OWa24 := Lib.hid (OWa23.out.below hb (by omega))
  have XX24 := Lib.hid (XX23.out.below hb XX23.out.lt)
  have XY24 := Lib.hid (XY23.out.below hb XY23.out.lt)
  have XWg24 := Lib.hid (XWg23.out.below hb XWg23.out.lt)
  have OWg24 := Lib.hid (OWg23.out.below hb (by omega))
  have XWh24 := Lib.hid (XWh23.out.below hb XWh23.out.lt)
  have OWh24 := Lib.hid (OWh23.out.below hb (by omega))
  clear hb XT23 XA23 XH23 XC23 B23 XWa23 OWa23 XX23 XY23 XWg23 OWg23 XWh23 OWh23
  have ceXWg := XWg24.out.cell
  have lbXWg := XWg24.out.lt
  go_wp2_with fail
  refine (heldAnchor_any rhd Ag _ cg 1 _ ((OWg24.out.rd valC_len).more (by omega)) (by decide) (by omega) (by decide)).mono ?_
  rw [← HK4.out]
  rintro e v25 ⟨rfl, hb⟩
  clear ceXWg lbXWg
  have hs25 := hb.size
  have XT25 := Lib.hid (XT24.out.below hb XT24.out.lt)
  have XA25 := Lib.hid (XA24.out.below hb XA24.out.lt)
  have XH25 := Lib.hid (XH24.out.below hb XH24.out.lt)
  have XC25 := Lib.hid (XC24.out.below hb XC24.out.lt)
  have B25 := Lib.hid (B24.out.trans (hb.mono B24.out.size))
  have XWa25 := Lib.hid (XWa24.out.below hb XWa24.out.lt)
  have OWa25 := Lib.hid (OWa24.out.below hb (by omega))
  have XX25 := Lib.hid (XX24.out.below hb XX24.out.lt)
  have XY25 := Lib.hid (XY24.out.below hb XY24.out.lt)
  have XWg25 := Lib.hid (XWg24.out.below hb XWg24.out.lt)
  have OWg25 := Lib.hid (OWg24.out.below hb (by omega))
  have XWh25 := Lib.hid (XWh24.out.below hb XWh24.out.lt)
  have OWh25 := Lib.hid (OWh24.out.below hb (by omega))
  clear hb XT24 XA24 XH24 XC24 B24 XWa24 OWa24 XX24 XY24 XWg24 OWg24 XWh24 OWh24
  go_wp2_with fail
  go_ret
  exact ⟨rfl, B25.out⟩

set_option maxRecDepth 100000 in
set_option maxHeartbeats 2000000 in
theorem ExactVerify_lifted (os : Os) (started : os.Started) (H : Type) (enc : TypeId × Value → H) :
    ReturnsInHanded {} Tryz.checked os 4 .any (fun w args => (Rows.fnExactVerifySpec.pre enc Tryz.prog Tryz.f4 Rows.fnExactVerifyRow.domain false w args ∧ laidMet Tryz.prog Rows.fnExactVerifyRow.laid w) ∧ sizedMet enc Tryz.prog Tryz.f4 (OpenSpec.ofChange Rows.fnExactVerifySpec) false w args)
      (Rows.fnExactVerifySpec.post enc Tryz.prog Tryz.f4 false true false false) := by
  refine returnsInHanded_of_change_and (C := Tryz.checked) (X := fun w _ => laidMet Tryz.prog Rows.fnExactVerifyRow.laid w) (fun _ _ _ hh h => h.of_heap hh) own started (by kernel_rfl) Tryz.func4
    (ChangeSpec.witness_at (enc := enc) (C := Tryz.checked) (os := os) (X := fun w _ => laidMet Tryz.prog Rows.fnExactVerifyRow.laid w) false (tabWorld os) #[.agg #[.int .i64 0, .int .i64 0], .agg #[.int .i64 0, .int .i64 0, .string ⟨#[]⟩, .string ⟨#[]⟩, .string ⟨#[]⟩, .string ⟨#[]⟩, .slice none 0 0], .agg #[.int .i64 0, .int .i64 0, .string ⟨#[]⟩, .string ⟨#[]⟩, .string ⟨#[]⟩, .string ⟨#[]⟩], .slice none 0 0, .agg #[.int .i64 0, .int .i64 0, .string ⟨#[]⟩, .slice none 0 0], .int .i64 0] 8 rfl (by kernel_rfl) (by kernel_rfl) (by kernel_rfl) (by kernel_rfl) (by kernel_rfl) (tabWorld_met os _)) ?_
  intro W base args ds gs before hval0 hW hcnd _ hL _
  have hval : ∀ (j : Nat) t v, Tryz.f4.params[j]? = some t → args[j]? = some v → Value.okWide Tryz.prog W .any base t v := hval0
  have hW' := hW
  obtain ⟨p, q, hA0, hV, rfl, hfz, hnd⟩ := hW
  have hA : DataW.TrodAll enc Tryz.prog W 0 (fun _ => true) true Tryz.f4.params.toList args.toList ds p := hA0
  rw [Tryz.params4] at hA hval
  have ht := tab_of_laid hL
  obtain ⟨v0, vs0, d0, ds0, p0, q0, hargs, rfl, rfl, h0, r0⟩ := trodAll_cons hA
  obtain ⟨v1, vs1, d1, ds1, p1, q1, rfl, rfl, rfl, h1, r1⟩ := trodAll_cons r0
  obtain ⟨v2, vs2, d2, ds2, p2, q2, rfl, rfl, rfl, h2, r2⟩ := trodAll_cons r1
  obtain ⟨v3, vs3, d3, ds3, p3, q3, rfl, rfl, rfl, h3, r3⟩ := trodAll_cons r2
  obtain ⟨v4, vs4, d4, ds4, p4, q4, rfl, rfl, rfl, h4, r4⟩ := trodAll_cons r3
  obtain ⟨v5, vs5, d5, ds5, p5, q5, rfl, rfl, rfl, h5, r5⟩ := trodAll_cons r4
  obtain ⟨rfl, rfl, rfl⟩ := trodAll_nil r5
  obtain rfl : args = #[v0, v1, v2, v3, v4, v5] := by cases args; simp_all
  -- the trust
  obtain ⟨cs, rfl, hlen, m, hf⟩ := agg_fields Tryz.underlying44 (hval 0 44 v0 rfl rfl) h0
  obtain ⟨c0, c1, rfl⟩ := list2 (hlen.trans (by kernel_rfl : Tryz.prog.cellsOf 44 = 2))
  obtain ⟨y0, g0⟩ := hf 0 _ rfl
  obtain ⟨y1, g1⟩ := hf 1 _ rfl
  obtain ⟨per, rfl, _, _⟩ := field_int Tryz.underlying3 g0
  obtain ⟨sl, rfl, _, _⟩ := field_int Tryz.underlying3 g1
  clear g0 g1 hf hlen
  -- the anchor
  obtain ⟨cs, rfl, hlen, m1, hf⟩ := agg_fields Tryz.underlying48 (hval 1 48 v1 rfl rfl) h1
  obtain ⟨c0, c1, c2, c3, c4, c5, c6, rfl⟩ := list7 (hlen.trans (by kernel_rfl : Tryz.prog.cellsOf 48 = 7))
  obtain ⟨y0, g0⟩ := hf 0 _ rfl
  obtain ⟨y1, g1⟩ := hf 1 _ rfl
  obtain ⟨sa, he, s1, s2, s3, s4⟩ := head_el g0
  have he' : [c0, c1, c2, c3, c4, c5] = headC sa := he
  simp only [headC, List.cons.injEq, and_true] at he'
  obtain ⟨rfl, rfl, rfl, rfl, rfl, rfl⟩ := he'
  obtain ⟨A, n, c, rfl, al, hAl⟩ := open_list Tryz.underlying46 (by kernel_rfl) (by decide) valC_len (fun cs y n h => val_el h) g1
  obtain rfl : al.length = n := hAl.1
  clear g0 g1 hf hlen he
  -- the header
  obtain ⟨cs, rfl, hlen, m2, hf⟩ := agg_fields Tryz.underlying45 (hval 2 45 v2 rfl rfl) h2
  obtain ⟨e0, e1, e2, e3, e4, e5, rfl⟩ := listV6 (hlen.trans (by kernel_rfl : Tryz.prog.cellsOf 45 = 6))
  obtain ⟨x0, j0⟩ := hf 0 _ rfl
  obtain ⟨x1, j1⟩ := hf 1 _ rfl
  obtain ⟨x2, j2⟩ := hf 2 _ rfl
  obtain ⟨x3, j3⟩ := hf 3 _ rfl
  obtain ⟨x4, j4⟩ := hf 4 _ rfl
  obtain ⟨x5, j5⟩ := hf 5 _ rfl
  obtain ⟨b0, rfl, _, _⟩ := field_int Tryz.underlying3 j0
  obtain ⟨b1, rfl, _, _⟩ := field_int Tryz.underlying3 j1
  obtain ⟨b2, rfl, hv1⟩ := field_string Tryz.underlying9 j2
  obtain ⟨b3, rfl, hv2⟩ := field_string Tryz.underlying9 j3
  obtain ⟨b4, rfl, hv3⟩ := field_string Tryz.underlying9 j4
  obtain ⟨b5, rfl, hv4⟩ := field_string Tryz.underlying9 j5
  clear j0 j1 j2 j3 j4 j5 hf hlen
  -- the validators behind it
  obtain ⟨a0, len, cap, rfl⟩ := okWide_slice Tryz.underlying46 (hval 3 46 v3 rfl rfl)
  obtain ⟨fuel, hfu⟩ := h3
  obtain ⟨B, nB, dB, hsl, nl, hN⟩ := open_list Tryz.underlying46 (by kernel_rfl) (by decide) valC_len (fun cs y n h => val_el h) hfu
  simp only [Value.slice.injEq] at hsl
  obtain ⟨rfl, rfl, rfl⟩ := hsl
  obtain rfl : nl.length = len := hN.1
  -- the commit
  obtain ⟨cs, rfl, hlen, m4, hf⟩ := agg_fields Tryz.underlying51 (hval 4 51 v4 rfl rfl) h4
  obtain ⟨e0, e1, e2, e3, rfl⟩ := listV4 (hlen.trans (by kernel_rfl : Tryz.prog.cellsOf 51 = 4))
  obtain ⟨x0, j0⟩ := hf 0 _ rfl
  obtain ⟨x1, j1⟩ := hf 1 _ rfl
  obtain ⟨x2, j2⟩ := hf 2 _ rfl
  obtain ⟨x3, j3⟩ := hf 3 _ rfl
  obtain ⟨z0, rfl, _, _⟩ := field_int Tryz.underlying3 j0
  obtain ⟨z1, rfl, _, _⟩ := field_int Tryz.underlying3 j1
  obtain ⟨z2, rfl, hi⟩ := field_string Tryz.underlying9 j2
  obtain ⟨D, nD, cD, rfl, sg, hS, hss⟩ := open_listP (Pr := fun x => x.sig.size ≤ maxLen) Tryz.underlying49 (by kernel_rfl) (by decide) csigC_len (fun cs y n h => csig_el h) j3
  obtain rfl : sg.length = nD := hS.1
  clear j0 j1 j2 j3 hf hlen
  obtain ⟨now, rfl, rfl, rfl, _⟩ := open_int Tryz.underlying3 (hval 5 3 v5 rfl rfl) h5
  refine (ExactVerify_walk per sl sa ⟨b0, b1, b2, b3, b4, b5⟩ A c al a0 cap nl ⟨z0, z1, z2⟩ D cD sg now W hAl hN hS hss hi s1 s2 s3 s4 hv1 hv2 hv3 hv4 ht).mono fun r W' ⟨hr, hb⟩ => ?_
  subst hr
  exact ⟨_, rfl, law_post1 (f := Tryz.f4) (tb := 4) (t := 135) rfl Tryz.underlying4 rfl (by kernel_rfl) (by kernel_rfl) (by kernel_rfl) (fun d => rfl) (fun d => rfl) (fun d => rfl) hW' hb⟩

theorem ExactVerify_row : Rows.FnExactVerifySaid :=
  OpenClaim.holds_of_wide 4 Tryz.f4 rfl rfl rfl rfl rfl rfl rfl ⟨rfl, rfl, rfl, rfl, rfl⟩ rfl rfl rfl rfl rfl (by kernel_rfl) Tryz.func4 (by kernel_rfl)
    (of_decide_eq_true (by kernel_rfl)) (by unfold Func.isWrapper; first | (rw [if_pos (by decide +kernel)]; kernel_rfl) | (rw [if_neg (by decide +kernel)]; exact ⟨rfl, rfl⟩))
    (fun os started H enc _ => ExactVerify_lifted os started H enc)

theorem ExactVerify_holds : Rows.FnExactVerifyCardSaid :=
  Claim7.holds_tied_plain_at .later [] [.data] true Rows.fnExactVerifyCard.stood.harness false
    ExactVerify_row (fun _ h => by cases h) (by kernel_rfl) (fun _ h => by cases h) fnExactVerify_row_tie rfl ⟨rfl, rfl⟩ (by kernel_rfl) rfl
    (fun f fn hf hfn => by
      obtain rfl : f = 4 := Option.some.inj ((show Tryz.prog.funcNamed "loop.example/g00946/laws.FnExactVerify" = some 4 by kernel_rfl).symm.trans hf) |>.symm
      obtain rfl : fn = Tryz.f4 := (Option.some.inj (Tryz.func4.symm.trans hfn)).symm
      exact ⟨by kernel_rfl, fun j t ht => by
        rw [Tryz.params4] at ht
        have h3 : t = 44 ∨ t = 48 ∨ t = 45 ∨ t = 46 ∨ t = 51 ∨ t = 3 := by
          rcases j with _ | _ | _ | _ | _ | _ | j
          · exact .inl (by simpa using ht.symm)
          · exact .inr (.inl (by simpa using ht.symm))
          · exact .inr (.inr (.inl (by simpa using ht.symm)))
          · exact .inr (.inr (.inr (.inl (by simpa using ht.symm))))
          · exact .inr (.inr (.inr (.inr (.inl (by simpa using ht.symm)))))
          · exact .inr (.inr (.inr (.inr (.inr (by simpa using ht.symm)))))
          · simp at ht
        rcases h3 with h3 | h3 | h3 | h3 | h3 | h3
        · subst h3
          exact (show Tryz.prog.wantsStandIn 44 = false by kernel_rfl)
        · subst h3
          exact (show Tryz.prog.wantsStandIn 48 = false by kernel_rfl)
        · subst h3
          exact (show Tryz.prog.wantsStandIn 45 = false by kernel_rfl)
        · subst h3
          exact (show Tryz.prog.wantsStandIn 46 = false by kernel_rfl)
        · subst h3
          exact (show Tryz.prog.wantsStandIn 51 = false by kernel_rfl)
        · subst h3
          exact (show Tryz.prog.wantsStandIn 3 = false by kernel_rfl)⟩)
    (by kernel_rfl)
#print axioms ExactVerify_holds
end Go.Proofs.YtelnnegfkdfpiaaGreatDoor
