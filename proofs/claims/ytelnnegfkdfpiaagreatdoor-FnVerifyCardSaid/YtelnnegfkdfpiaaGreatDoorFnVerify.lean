/- FnVerify: a verified header is signed by enough validators, linked to the trusted header, and later; a rejected one leaves the anchor as it was. No conditions but the card's: the table of the hash is as the program's text lays it. (written by wip/fnverify.py) -/
import Derived.Test.YtelnnegfkdfpiaaGreatDoorVerPure
import Derived.WalkKit
import Derived.WalkSpells
import Derived.WalkLawsBesides
import Derived.Lib.Hide
import Derived.Test.YtelnnegfkdfpiaaGreatDoorDrawVerify
import Derived.Test.YtelnnegfkdfpiaaGreatDoorVerAll
import Derived.Test.YtelnnegfkdfpiaaGreatDoorRegU
import Derived.Test.YtelnnegfkdfpiaaGreatDoorCard
import Derived.Test.YtelnnegfkdfpiaaGreatDoorFnL
import Derived.RegionTactic
namespace Go.Proofs.YtelnnegfkdfpiaaGreatDoor
open Go.RowKit

section
variable {per sl now : Int} {a h : HeaderD} {al nl : List ValD} {p : ComD} {sg : List CSigD}
theorem ver_ok (h0 : verN per sl a al h nl p sg now = 0) : trustB per sl = true ∧ anchorB a al = true ∧ hdrB h = true ∧ inB now 0 1000000 = true ∧ ¬ a.t + per < now ∧ ¬ now + sl < h.t ∧ h.h = a.h + 1 ∧ ¬ h.t ≤ a.t ∧
    (h.last.toList == (headIdB a).toList) = true ∧ (h.vals.toList == a.next.toList) = true ∧ (h.next.toList == (valsHashB nl).toList) = true ∧ comB al h p sg = true := by
  unfold verN at h0
  split at h0
  · cases h0
  rename_i g1
  split at h0
  · cases h0
  rename_i g2
  split at h0
  · cases h0
  rename_i g3
  split at h0
  · cases h0
  rename_i g4
  split at h0
  · cases h0
  rename_i g5
  split at h0
  · cases h0
  rename_i g6
  split at h0
  · cases h0
  rename_i g7
  split at h0
  · cases h0
  rename_i g8
  split at h0
  · cases h0
  rename_i g9
  rw [Bool.not_eq_false] at g1 g4 g6 g7 g8 g9
  simp only [Bool.and_eq_true] at g1
  exact ⟨g1.1, g1.2.1, g1.2.2.1, g1.2.2.2, g2, g3, by simpa using g4, g5, g6, g7, g8, g9⟩
theorem ver_anchor (h0 : verN per sl a al h nl p sg now = 0) : anchorB h nl = true := by
  obtain ⟨_, _, h3, _, _, _, _, _, _, _, h11, _⟩ := ver_ok h0
  unfold anchorB
  rw [h3, Bool.true_and, beq_iff_eq]
  rw [beq_iff_eq] at h11
  exact h11.symm
theorem ver_enough (h0 : verN per sl a al h nl p sg now = 0) : enoughB al (cvL p sg) = true := by
  obtain ⟨_, _, _, _, _, _, _, _, _, _, _, h12⟩ := ver_ok h0
  simp only [comB, Bool.and_eq_true] at h12
  exact h12.2.2.2.2.2
theorem ver_again (h0 : verN per sl a al h nl p sg now = 0) : verN per sl h nl h nl p sg now = 4 := by
  have hA := ver_anchor h0
  obtain ⟨h1, h2, h3, h4, h5, h6, h7, h8, _⟩ := ver_ok h0
  have ht := trustB_bd h1
  have hn := (inB_iff _ _ _).1 h4
  unfold verN
  rw [if_neg (by rw [h1, hA, h3, h4]; decide), if_neg (by omega), if_neg h6, if_pos (by rw [beq_eq_false_iff_ne]; omega)]
def bentH (h : HeaderD) : HeaderD := ⟨h.h, h.t, h.last, h.vals, h.next, ⟨#[122, 122]⟩⟩
theorem bent_ok (h1 : hdrB h = true) : hdrB (bentH h) = true := by
  simp only [hdrB, Bool.and_eq_true] at h1
  simp only [hdrB, bentH, Bool.and_eq_true]
  exact ⟨⟨h1.1.1, h1.1.2⟩, rfl⟩
theorem ver_bent (h0 : verN per sl a al h nl p sg now = 0) : (verN per sl a al (bentH h) nl p sg now == 9 || ((headIdB (bentH h)).toList == (headIdB h).toList)) = true := by
  obtain ⟨h1, h2, h3, h4, h5, h6, h7, h8, h9, h10, h11, h12⟩ := ver_ok h0
  simp only [comB, Bool.and_eq_true, beq_iff_eq] at h12
  cases he : ((headIdB (bentH h)).toList == (headIdB h).toList)
  · rw [Bool.or_false, beq_iff_eq]
    rw [beq_eq_false_iff_ne] at he
    unfold verN
    rw [if_neg (by rw [h1, h2, bent_ok h3, h4]; decide), if_neg h5, if_neg (by exact h6), if_neg (by rw [Bool.not_eq_false, beq_iff_eq]; exact h7), if_neg (by exact h8), if_neg (by rw [Bool.not_eq_false]; exact h9),
      if_neg (by rw [Bool.not_eq_false]; exact h10), if_neg (by rw [Bool.not_eq_false]; exact h11), if_pos]
    unfold comB
    have e : (p.id.toList == (headIdB (bentH h)).toList) = false := by
      rw [beq_eq_false_iff_ne, h12.2.2.2.1]
      exact fun x => he x.symm
    rw [e]
    simp
  · simp
end
end Go.Proofs.YtelnnegfkdfpiaaGreatDoor

namespace Go.Proofs.YtelnnegfkdfpiaaGreatDoor
open Go.ChangeShapes Go.WideShapes Go.ChangeAt Go.RowKit Go.Joins

theorem wpAny_quietL {P : Program} {Q : Exit → Act → World → Prop} {a : Act} {w : World} {L : List Oper} {fuel : Nat} {listed : Array Bool} (k m : Nat) (C : World → Prop) (hf : fuel = L.length - k) (hlis : listed = marksOf (List.range k) L.length) (hk : k ≤ m) (hl : m ≤ L.length) (hB0 : segC L k = true) (hB : segC L m = true)
    (hs : Region.noSelect (L.take m).toArray = true) (hx : Region.lexFrom .any (L.take m).toArray (m - k) k (marksOf (List.range k) m) = true) (hC : C w)
    (h : wpQuiet P (L.take m).toArray C (fun a' => ∀ w', C w' → wpAny P .any L.toArray Q (L.length - m) (marksOf (List.range m) L.length) a' w') ((L.take m).drop k) a) : wpAny P .any L.toArray Q fuel listed a w := by
  subst hf
  subst hlis
  exact wpAny_quietG k m C hk hl hB0 hB hs hx hC h

set_option maxHeartbeats 1000000 in
theorem sameVals_same (A : Option Addr) (n c : Nat) (A' : Option Addr) (c' : Nat) (l : List ValD) (w : World) (hl : RdL valC 2 w w.heap.size A n c l) (hl' : RdL valC 2 w w.heap.size A' n c' l) :
    Calls Tryz.prog 9 #[.slice A n c, .slice A' n c'] w fun e w' => e = .returned (.bool true) ∧ Below w.heap.size w w' := by
  have hn := hl.le
  have HL := Lib.hid hl
  have HL' := Lib.hid hl'
  clear hl hl'
  go_enter Tryz.func9, Tryz.ntmps9
  go_wp2_with fail
  go_loopw [5] (fun i wr => ∃ k : Nat, k ≤ n ∧ i = .int .i64 k ∧ Below w.heap.size w wr) (fun i _ => n - (intOf i).toNat)
  case atStart => exact ⟨0, by omega, rfl, Below.refl _ _⟩
  case round =>
    obtain ⟨k, hk, rfl, hb⟩ := hrel
    have hz := hb.size
    by_cases hkn : k < n
    · obtain ⟨b, off, p, rfl, hb1, hp, c0, c1⟩ := val_cells (HL.out.below hb (Nat.le_refl _)) hkn
      obtain ⟨b', off', p', rfl, hb1', hp', d0, d1⟩ := val_cells (HL'.out.below hb (Nat.le_refl _)) hkn
      obtain rfl : p = p' := by rw [hp] at hp'; injection hp'
      clear hp hp'
      have hlt : b < wr.heap.size := by omega
      have hlt' : b' < wr.heap.size := by omega
      go_wp2_with fail
      refine wp_region_below (by kernel_rfl) (by kernel_rfl) ?_
      repeat (first | go_big_quiet_skip | (go_big_quiet_want; go_big_quiet_op; first | go_big_quiet_on | (apply Exists.intro; refine ⟨fun w1 hC => ?_, ?_⟩; (focus (first | rfl | fail | (simp [(bcell hC).1, hlt, hlt', c0, c1, d0, d1]; done) | (simp [(bcell hC).1, hlt, hlt', c0, c1, d0, d1]; rfl))); go_big_quiet_on)))
      refine wpQuiet_nil ?_
      intro w2 hb2
      obtain ⟨hc2, hf2, hz2⟩ := bcell hb2
      go_wp2
      go_roundw
      case rel => exact ⟨k + 1, by omega, by go_num, hb.trans (hb2.mono hz)⟩
      case measure => simp [intOf]; omega
    · obtain rfl : k = n := by omega
      go_wp2
      go_ret
      exact ⟨rfl, hb⟩

set_option maxRecDepth 100000 in
set_option maxHeartbeats 32000000 in
theorem FnVerify_walk (A : Option Addr) (n c : Nat) (l : List UInt8) (w : World) (hl : RdL octC 1 w w.heap.size A n c l) (ht : Tab w) :
    Calls Tryz.prog 3 #[.slice A n c] w fun e w' => e = .returned (.bool true) ∧ Below w.heap.size w w' := by
  have HL := Lib.hid hl
  have HT := Lib.hid ht
  have htp := ht.pos
  clear hl ht
  by_cases hn : (1048576 : Int) < n
  · have hnb : decide ((1048576 : Int) < n) = true := decide_eq_true hn
    go_enter Tryz.func3, Tryz.ntmps3
    go_wp2_with (go_at_call 5; (with_reducible refine (big_any A n c _).mono ?_); rintro e w' ⟨rfl, rfl⟩)
    go_ret
    exact ⟨rfl, Below.refl _ _⟩
  have hnb : decide ((1048576 : Int) < n) = false := decide_eq_false hn
  go_enter Tryz.func3, Tryz.ntmps3
  go_wp2_with (go_at_call 5; (with_reducible refine (big_any A n c _).mono ?_); rintro e w' ⟨rfl, rfl⟩)
  clear hnb
  have B0 := Lib.hid (Below.refl w.heap.size w)
  refine (DrawVerify_any A n c l _ HL.out (by omega)).mono ?_
  rintro e v1 ⟨per, sl, sa, al, Aa, ca, sh, nl, B, d, pc, sg, D, q, now, rfl, ra, rn, rs, la, lb, ls, hb⟩
  have HRA := Lib.hid ra
  have HRN := Lib.hid rn
  have HRS := Lib.hid rs
  clear ra rn rs
  have hs1 := hb.size
  have B1 := Lib.hid (B0.out.trans (hb.mono B0.out.size))
  clear hb B0
  have RA1 := HRA
  clear HRA
  have RN1 := HRN
  clear HRN
  have RS1 := HRS
  clear HRS
  go_upto_region 4 with fail
  obtain ⟨v2, hnw⟩ : ∃ zq, zq = (((v1.alloc (.cells #[.int .i64 per, .int .i64 sl] 25)).alloc (.cells #[.int .i64 sa.h, .int .i64 sa.t, .string sa.last, .string sa.vals, .string sa.next, .string sa.data, .slice Aa al.length ca] 30)).alloc (.cells #[.int .i64 sh.h, .int .i64 sh.t, .string sh.last, .string sh.vals, .string sh.next, .string sh.data] 27)).alloc (.cells #[.int .i64 pc.h, .int .i64 pc.r, .string pc.id, .slice D sg.length q] 33) := ⟨_, rfl⟩
  rw [← hnw]
  have hxXT : Blk v2 (v1.heap.size) 25 #[.int .i64 per, .int .i64 sl] := by rw [hnw]; have h := heap_alloc_new v1 (.cells #[.int .i64 per, .int .i64 sl] 25); (try simp only [World.size_alloc] at h); exact (Blk.alloc (Blk.alloc (Blk.alloc h _) _) _)
  have hxXA : Blk v2 (v1.heap.size + 1) 30 #[.int .i64 sa.h, .int .i64 sa.t, .string sa.last, .string sa.vals, .string sa.next, .string sa.data, .slice Aa al.length ca] := by rw [hnw]; have h := heap_alloc_new (v1.alloc (.cells #[.int .i64 per, .int .i64 sl] 25)) (.cells #[.int .i64 sa.h, .int .i64 sa.t, .string sa.last, .string sa.vals, .string sa.next, .string sa.data, .slice Aa al.length ca] 30); (try simp only [World.size_alloc] at h); exact (Blk.alloc (Blk.alloc h _) _)
  have hxXH : Blk v2 (v1.heap.size + 1 + 1) 27 #[.int .i64 sh.h, .int .i64 sh.t, .string sh.last, .string sh.vals, .string sh.next, .string sh.data] := by rw [hnw]; have h := heap_alloc_new ((v1.alloc (.cells #[.int .i64 per, .int .i64 sl] 25)).alloc (.cells #[.int .i64 sa.h, .int .i64 sa.t, .string sa.last, .string sa.vals, .string sa.next, .string sa.data, .slice Aa al.length ca] 30)) (.cells #[.int .i64 sh.h, .int .i64 sh.t, .string sh.last, .string sh.vals, .string sh.next, .string sh.data] 27); (try simp only [World.size_alloc] at h); exact (Blk.alloc h _)
  have hxXC : Blk v2 (v1.heap.size + 1 + 1 + 1) 33 #[.int .i64 pc.h, .int .i64 pc.r, .string pc.id, .slice D sg.length q] := by rw [hnw]; have h := heap_alloc_new (((v1.alloc (.cells #[.int .i64 per, .int .i64 sl] 25)).alloc (.cells #[.int .i64 sa.h, .int .i64 sa.t, .string sa.last, .string sa.vals, .string sa.next, .string sa.data, .slice Aa al.length ca] 30)).alloc (.cells #[.int .i64 sh.h, .int .i64 sh.t, .string sh.last, .string sh.vals, .string sh.next, .string sh.data] 27)) (.cells #[.int .i64 pc.h, .int .i64 pc.r, .string pc.id, .slice D sg.length q] 33); (try simp only [World.size_alloc] at h); exact h
  have hb : Below v1.heap.size v1 v2 := by rw [hnw]; exact (Below.alloc (Below.alloc (Below.alloc (Below.alloc (Below.refl _ _) (by first | exact Nat.le_refl _ | (simp; done) | (simp; omega)) _) (by first | exact Nat.le_refl _ | (simp; done) | (simp; omega)) _) (by first | exact Nat.le_refl _ | (simp; done) | (simp; omega)) _) (by first | exact Nat.le_refl _ | (simp; done) | (simp; omega)) _)
  clear hnw
  have hs2 := hb.size
  have B2 := Lib.hid (B1.out.trans (hb.mono B1.out.size))
  have RA2 := Lib.hid ((RA1.out.below hb (Nat.le_refl _)).more hs2)
  have RN2 := Lib.hid ((RN1.out.below hb (Nat.le_refl _)).more hs2)
  have RS2 := Lib.hid ((RS1.out.below hb (Nat.le_refl _)).more hs2)
  clear hb B1 RA1 RN1 RS1
  have XT2 := Lib.hid hxXT
  have ltXT := hxXT.lt
  clear hxXT
  have XA2 := Lib.hid hxXA
  have ltXA := hxXA.lt
  clear hxXA
  have XH2 := Lib.hid hxXH
  have ltXH := hxXH.lt
  clear hxXH
  have XC2 := Lib.hid hxXC
  have ltXC := hxXC.lt
  clear hxXC
  obtain ⟨r, hr⟩ : ∃ r, r = verN per sl sa al sh nl pc sg now := ⟨_, rfl⟩
  obtain ⟨hx, hhx⟩ : ∃ x, x = verH r sa sh := ⟨_, rfl⟩
  obtain ⟨lx, hlx⟩ : ∃ x, x = verV r al nl := ⟨_, rfl⟩
  have HIM : ∀ wx : World, RdL valC 2 wx wx.heap.size Aa al.length ca al → RdL valC 2 wx wx.heap.size B nl.length d nl → RdL csigC 2 wx wx.heap.size D sg.length q sg → Tab wx → Hid (Calls Tryz.prog 7 #[.agg #[.int .i64 per, .int .i64 sl], .agg #[.int .i64 sa.h, .int .i64 sa.t, .string sa.last, .string sa.vals, .string sa.next, .string sa.data, .slice Aa al.length ca], .agg #[.int .i64 sh.h, .int .i64 sh.t, .string sh.last, .string sh.vals, .string sh.next, .string sh.data], .slice B nl.length d, .agg #[.int .i64 pc.h, .int .i64 pc.r, .string pc.id, .slice D sg.length q], .int .i64 now] wx (VerOut hx lx r wx)) := fun wx g1 g2 g3 g6 => by
    have h := Verify_any per sl sa sh Aa _ ca al B _ d nl pc D _ q sg now wx g1 g2 g3 (by omega) (by omega) g6
    rw [← hr, ← hhx, ← hlx] at h
    exact h
  have HSP : ∀ wx : World, RdL valC 2 wx wx.heap.size Aa al.length ca al → RdL valC 2 wx wx.heap.size B nl.length d nl → RdL csigC 2 wx wx.heap.size D sg.length q sg → Hid (Calls Tryz.prog 8 #[.agg #[.int .i64 per, .int .i64 sl], .agg #[.int .i64 sa.h, .int .i64 sa.t, .string sa.last, .string sa.vals, .string sa.next, .string sa.data, .slice Aa al.length ca], .agg #[.int .i64 sh.h, .int .i64 sh.t, .string sh.last, .string sh.vals, .string sh.next, .string sh.data], .slice B nl.length d, .agg #[.int .i64 pc.h, .int .i64 pc.r, .string pc.id, .slice D sg.length q], .int .i64 now] wx (VerOut hx lx r wx)) := fun wx g1 g2 g3 => by
    have h := sVerify_any per sl sa sh Aa _ ca al B _ d nl pc D _ q sg now wx g1 g2 g3 (by omega) (by omega)
    rw [← hr, ← hhx, ← hlx] at h
    exact h
  have HR := Lib.hid hr
  have HHX := Lib.hid hhx
  have HLX := Lib.hid hlx
  clear hr hhx hlx
  have ceXT := XT2.out.cell
  have lbXT := XT2.out.lt
  have ceXA := XA2.out.cell
  have lbXA := XA2.out.lt
  have ceXH := XH2.out.cell
  have lbXH := XH2.out.lt
  have ceXC := XC2.out.cell
  have lbXC := XC2.out.lt
  go_wp2_with fail
  refine ((HIM _ RA2.out RN2.out RS2.out (HT.out.below B2.out htp)).out).mono ?_
  rintro e v3 ⟨Ax, cx, rfl, ho, hb⟩
  have HRW := Lib.hid ((ho.rd valC_len))
  clear ho
  clear ceXT lbXT ceXA lbXA ceXH lbXH ceXC lbXC
  have hs3 := hb.size
  have B3 := Lib.hid (B2.out.trans (hb.mono B2.out.size))
  have RA3 := Lib.hid ((RA2.out.below hb (Nat.le_refl _)).more hs3)
  have RN3 := Lib.hid ((RN2.out.below hb (Nat.le_refl _)).more hs3)
  have RS3 := Lib.hid ((RS2.out.below hb (Nat.le_refl _)).more hs3)
  have XT3 := Lib.hid (XT2.out.below hb XT2.out.lt)
  have XA3 := Lib.hid (XA2.out.below hb XA2.out.lt)
  have XH3 := Lib.hid (XH2.out.below hb XH2.out.lt)
  have XC3 := Lib.hid (XC2.out.below hb XC2.out.lt)
  clear hb B2 RA2 RN2 RS2 XT2 XA2 XH2 XC2
  have RX3 := HRW
  clear HRW
  go_upto_region 5 with fail
  obtain ⟨v4, hnw⟩ : ∃ zq, zq = v3.alloc (.cells #[.int .i64 hx.h, .int .i64 hx.t, .string hx.last, .string hx.vals, .string hx.next, .string hx.data, .slice Ax lx.length cx] 30) := ⟨_, rfl⟩
  rw [← hnw]
  have hb : Below v3.heap.size v3 v4 := by rw [hnw]; exact (Below.refl _ _).alloc (Nat.le_refl _) _
  have hxx : Blk v4 v3.heap.size 30 #[.int .i64 hx.h, .int .i64 hx.t, .string hx.last, .string hx.vals, .string hx.next, .string hx.data, .slice Ax lx.length cx] := by rw [hnw]; exact heap_alloc_new v3 _
  clear hnw
  have hs4 := hb.size
  have B4 := Lib.hid (B3.out.trans (hb.mono B3.out.size))
  have RA4 := Lib.hid ((RA3.out.below hb (Nat.le_refl _)).more hs4)
  have RN4 := Lib.hid ((RN3.out.below hb (Nat.le_refl _)).more hs4)
  have RS4 := Lib.hid ((RS3.out.below hb (Nat.le_refl _)).more hs4)
  have XT4 := Lib.hid (XT3.out.below hb XT3.out.lt)
  have XA4 := Lib.hid (XA3.out.below hb XA3.out.lt)
  have XH4 := Lib.hid (XH3.out.below hb XH3.out.lt)
  have XC4 := Lib.hid (XC3.out.below hb XC3.out.lt)
  have RX4 := Lib.hid ((RX3.out.below hb (Nat.le_refl _)).more hs4)
  clear hb B3 RA3 RN3 RS3 XT3 XA3 XH3 XC3 RX3
  have XX4 := Lib.hid hxx
  have ltXX := hxx.lt
  clear hxx
  have ceXT := XT4.out.cell
  have lbXT := XT4.out.lt
  have ceXA := XA4.out.cell
  have lbXA := XA4.out.lt
  have ceXH := XH4.out.cell
  have lbXH := XH4.out.lt
  have ceXC := XC4.out.cell
  have lbXC := XC4.out.lt
  go_wp2_with fail
  refine ((HSP _ RA4.out RN4.out RS4.out).out).mono ?_
  rintro e v5 ⟨As, cs, rfl, ho, hb⟩
  clear ho
  clear ceXT lbXT ceXA lbXA ceXH lbXH ceXC lbXC
  have hs5 := hb.size
  have B5 := Lib.hid (B4.out.trans (hb.mono B4.out.size))
  have RA5 := Lib.hid ((RA4.out.below hb (Nat.le_refl _)).more hs5)
  have RN5 := Lib.hid ((RN4.out.below hb (Nat.le_refl _)).more hs5)
  have RS5 := Lib.hid ((RS4.out.below hb (Nat.le_refl _)).more hs5)
  have XT5 := Lib.hid (XT4.out.below hb XT4.out.lt)
  have XA5 := Lib.hid (XA4.out.below hb XA4.out.lt)
  have XH5 := Lib.hid (XH4.out.below hb XH4.out.lt)
  have XC5 := Lib.hid (XC4.out.below hb XC4.out.lt)
  have RX5 := Lib.hid ((RX4.out.below hb (Nat.le_refl _)).more hs5)
  have XX5 := Lib.hid (XX4.out.below hb XX4.out.lt)
  clear hb B4 RA4 RN4 RS4 XT4 XA4 XH4 XC4 RX4 XX4
  go_upto_region 6 with fail
  obtain ⟨v6, hnw⟩ : ∃ zq, zq = v5.alloc (.cells #[.int .i64 hx.h, .int .i64 hx.t, .string hx.last, .string hx.vals, .string hx.next, .string hx.data, .slice As lx.length cs] 30) := ⟨_, rfl⟩
  rw [← hnw]
  have hb : Below v5.heap.size v5 v6 := by rw [hnw]; exact (Below.refl _ _).alloc (Nat.le_refl _) _
  have hxx : Blk v6 v5.heap.size 30 #[.int .i64 hx.h, .int .i64 hx.t, .string hx.last, .string hx.vals, .string hx.next, .string hx.data, .slice As lx.length cs] := by rw [hnw]; exact heap_alloc_new v5 _
  clear hnw
  have hs6 := hb.size
  have B6 := Lib.hid (B5.out.trans (hb.mono B5.out.size))
  have RA6 := Lib.hid ((RA5.out.below hb (Nat.le_refl _)).more hs6)
  have RN6 := Lib.hid ((RN5.out.below hb (Nat.le_refl _)).more hs6)
  have RS6 := Lib.hid ((RS5.out.below hb (Nat.le_refl _)).more hs6)
  have XT6 := Lib.hid (XT5.out.below hb XT5.out.lt)
  have XA6 := Lib.hid (XA5.out.below hb XA5.out.lt)
  have XH6 := Lib.hid (XH5.out.below hb XH5.out.lt)
  have XC6 := Lib.hid (XC5.out.below hb XC5.out.lt)
  have RX6 := Lib.hid ((RX5.out.below hb (Nat.le_refl _)).more hs6)
  have XX6 := Lib.hid (XX5.out.below hb XX5.out.lt)
  clear hb B5 RA5 RN5 RS5 XT5 XA5 XH5 XC5 RX5 XX5
  have XS6 := Lib.hid hxx
  have ltXS := hxx.lt
  clear hxx
  clear XS6
  clear HIM HSP
  by_cases r0 : r = 0
  rotate_left
  · have e1 : sa = hx := (HHX.out.trans (if_neg r0)).symm
    have e2 : al = lx := (HLX.out.trans (if_neg r0)).symm
    subst e1
    subst e2
    have hne : (r != 0) = true := by simpa using r0
    have ceXX := XX6.out.cell
    have lbXX := XX6.out.lt
    have ceXA := XA6.out.cell
    have lbXA := XA6.out.lt
    go_wp2_with fail
    refine (sameVals_same Ax _ cx Aa ca al _ RX6.out RA6.out).mono ?_
    rintro e vz ⟨rfl, hb⟩
    go_wp2_with fail
    go_ret
    exact ⟨rfl, B6.out.trans (hb.mono B6.out.size)⟩
  have e1 : sh = hx := by rw [HHX.out, r0]; rfl
  have e2 : nl = lx := by rw [HLX.out, r0]; rfl
  have hv0 : verN per sl sa al sh nl pc sg now = 0 := HR.out.symm.trans r0
  subst e1
  subst e2
  subst r0
  have HV0 := Lib.hid hv0
  clear HR HHX HLX hv0
  have HAG : ∀ (wx : World) (Ax : Option Addr) (cx : Nat), RdL valC 2 wx wx.heap.size Ax nl.length cx nl → RdL valC 2 wx wx.heap.size B nl.length d nl → RdL csigC 2 wx wx.heap.size D sg.length q sg → Tab wx → Hid (Calls Tryz.prog 7 #[.agg #[.int .i64 per, .int .i64 sl], .agg #[.int .i64 sh.h, .int .i64 sh.t, .string sh.last, .string sh.vals, .string sh.next, .string sh.data, .slice Ax nl.length cx], .agg #[.int .i64 sh.h, .int .i64 sh.t, .string sh.last, .string sh.vals, .string sh.next, .string sh.data], .slice B nl.length d, .agg #[.int .i64 pc.h, .int .i64 pc.r, .string pc.id, .slice D sg.length q], .int .i64 now] wx (VerOut sh nl 4 wx)) := fun wx Ax cx g1 g2 g3 g6 => by
    have h := Verify_any per sl sh sh Ax _ cx nl B _ d nl pc D _ q sg now wx g1 g2 g3 (by omega) (by omega) g6
    rw [ver_again HV0.out] at h
    exact h
  obtain ⟨r2, hr2⟩ : ∃ r2, r2 = verN per sl sa al (bentH sh) nl pc sg now := ⟨_, rfl⟩
  obtain ⟨h2, hh2⟩ : ∃ x, x = verH r2 sa (bentH sh) := ⟨_, rfl⟩
  obtain ⟨l2, hl2⟩ : ∃ x, x = verV r2 al nl := ⟨_, rfl⟩
  have HBE : ∀ wx : World, RdL valC 2 wx wx.heap.size Aa al.length ca al → RdL valC 2 wx wx.heap.size B nl.length d nl → RdL csigC 2 wx wx.heap.size D sg.length q sg → Tab wx → Hid (Calls Tryz.prog 7 #[.agg #[.int .i64 per, .int .i64 sl], .agg #[.int .i64 sa.h, .int .i64 sa.t, .string sa.last, .string sa.vals, .string sa.next, .string sa.data, .slice Aa al.length ca], .agg #[.int .i64 sh.h, .int .i64 sh.t, .string sh.last, .string sh.vals, .string sh.next, .string ⟨#[122, 122]⟩], .slice B nl.length d, .agg #[.int .i64 pc.h, .int .i64 pc.r, .string pc.id, .slice D sg.length q], .int .i64 now] wx (VerOut h2 l2 r2 wx)) := fun wx g1 g2 g3 g6 => by
    have h := Verify_any per sl sa (bentH sh) Aa _ ca al B _ d nl pc D _ q sg now wx g1 g2 g3 (by omega) (by omega) g6
    rw [← hr2, ← hh2, ← hl2] at h
    exact h
  have hbe := ver_bent HV0.out
  rw [← hr2] at hbe
  clear hr2 hh2 hl2
  have HBT := Lib.hid hbe
  clear hbe
  have ceXT := XT6.out.cell
  have lbXT := XT6.out.lt
  have ceXA := XA6.out.cell
  have lbXA := XA6.out.lt
  have ceXH := XH6.out.cell
  have lbXH := XH6.out.lt
  have ceXC := XC6.out.cell
  have lbXC := XC6.out.lt
  have ceXX := XX6.out.cell
  have lbXX := XX6.out.lt
  go_wp2_with fail
  refine ((HAG _ Ax cx RX6.out RN6.out RS6.out (HT.out.below B6.out htp)).out).mono ?_
  rintro e v7 ⟨A3, c3, rfl, ho, hb⟩
  clear ho
  clear ceXT lbXT ceXA lbXA ceXH lbXH ceXC lbXC ceXX lbXX
  have hs7 := hb.size
  have B7 := Lib.hid (B6.out.trans (hb.mono B6.out.size))
  have RA7 := Lib.hid ((RA6.out.below hb (Nat.le_refl _)).more hs7)
  have RN7 := Lib.hid ((RN6.out.below hb (Nat.le_refl _)).more hs7)
  have RS7 := Lib.hid ((RS6.out.below hb (Nat.le_refl _)).more hs7)
  have XT7 := Lib.hid (XT6.out.below hb XT6.out.lt)
  have XA7 := Lib.hid (XA6.out.below hb XA6.out.lt)
  have XH7 := Lib.hid (XH6.out.below hb XH6.out.lt)
  have XC7 := Lib.hid (XC6.out.below hb XC6.out.lt)
  have RX7 := Lib.hid ((RX6.out.below hb (Nat.le_refl _)).more hs7)
  have XX7 := Lib.hid (XX6.out.below hb XX6.out.lt)
  clear hb B6 RA6 RN6 RS6 XT6 XA6 XH6 XC6 RX6 XX6
  go_upto_region 11 with fail
  obtain ⟨v8, hnw⟩ : ∃ zq, zq = v7.alloc (.cells #[.int .i64 sh.h, .int .i64 sh.t, .string sh.last, .string sh.vals, .string sh.next, .string sh.data, .slice A3 nl.length c3] 30) := ⟨_, rfl⟩
  rw [← hnw]
  have hb : Below v7.heap.size v7 v8 := by rw [hnw]; exact (Below.refl _ _).alloc (Nat.le_refl _) _
  have hxx : Blk v8 v7.heap.size 30 #[.int .i64 sh.h, .int .i64 sh.t, .string sh.last, .string sh.vals, .string sh.next, .string sh.data, .slice A3 nl.length c3] := by rw [hnw]; exact heap_alloc_new v7 _
  clear hnw
  have hs8 := hb.size
  have B8 := Lib.hid (B7.out.trans (hb.mono B7.out.size))
  have RA8 := Lib.hid ((RA7.out.below hb (Nat.le_refl _)).more hs8)
  have RN8 := Lib.hid ((RN7.out.below hb (Nat.le_refl _)).more hs8)
  have RS8 := Lib.hid ((RS7.out.below hb (Nat.le_refl _)).more hs8)
  have XT8 := Lib.hid (XT7.out.below hb XT7.out.lt)
  have XA8 := Lib.hid (XA7.out.below hb XA7.out.lt)
  have XH8 := Lib.hid (XH7.out.below hb XH7.out.lt)
  have XC8 := Lib.hid (XC7.out.below hb XC7.out.lt)
  have RX8 := Lib.hid ((RX7.out.below hb (Nat.le_refl _)).more hs8)
  have XX8 := Lib.hid (XX7.out.below hb XX7.out.lt)
  clear hb B7 RA7 RN7 RS7 XT7 XA7 XH7 XC7 RX7 XX7
  have X38 := Lib.hid hxx
  have ltX3 := hxx.lt
  clear hxx
  clear X38
  have ceXH := XH8.out.cell
  have lbXH := XH8.out.lt
  skip
  clear ceXH lbXH
  have ceXH := XH8.out.cell
  have lbXH := XH8.out.lt
  go_upto_region 13 with fail
  obtain ⟨v9, hnw⟩ : ∃ zq, zq = v8.alloc (.cells #[.int .i64 sh.h, .int .i64 sh.t, .string sh.last, .string sh.vals, .string sh.next, .string ⟨#[122, 122]⟩] 27) := ⟨_, rfl⟩
  rw [← hnw]
  have hb : Below v8.heap.size v8 v9 := by rw [hnw]; exact (Below.refl _ _).alloc (Nat.le_refl _) _
  have hxx : Blk v9 v8.heap.size 27 #[.int .i64 sh.h, .int .i64 sh.t, .string sh.last, .string sh.vals, .string sh.next, .string ⟨#[122, 122]⟩] := by rw [hnw]; exact heap_alloc_new v8 _
  clear hnw
  have hs9 := hb.size
  have B9 := Lib.hid (B8.out.trans (hb.mono B8.out.size))
  have RA9 := Lib.hid ((RA8.out.below hb (Nat.le_refl _)).more hs9)
  have RN9 := Lib.hid ((RN8.out.below hb (Nat.le_refl _)).more hs9)
  have RS9 := Lib.hid ((RS8.out.below hb (Nat.le_refl _)).more hs9)
  have XT9 := Lib.hid (XT8.out.below hb XT8.out.lt)
  have XA9 := Lib.hid (XA8.out.below hb XA8.out.lt)
  have XH9 := Lib.hid (XH8.out.below hb XH8.out.lt)
  have XC9 := Lib.hid (XC8.out.below hb XC8.out.lt)
  have RX9 := Lib.hid ((RX8.out.below hb (Nat.le_refl _)).more hs9)
  have XX9 := Lib.hid (XX8.out.below hb XX8.out.lt)
  clear hb B8 RA8 RN8 RS8 XT8 XA8 XH8 XC8 RX8 XX8
  have XG9 := Lib.hid hxx
  have ltXG := hxx.lt
  clear hxx
  clear ceXH lbXH
  have ceXT := XT9.out.cell
  have lbXT := XT9.out.lt
  have ceXA := XA9.out.cell
  have lbXA := XA9.out.lt
  have ceXG := XG9.out.cell
  have lbXG := XG9.out.lt
  have ceXC := XC9.out.cell
  have lbXC := XC9.out.lt
  go_wp2_with fail
  refine ((HBE _ RA9.out RN9.out RS9.out (HT.out.below B9.out htp)).out).mono ?_
  rintro e v10 ⟨A4, c4, rfl, ho, hb⟩
  clear ho
  clear ceXT lbXT ceXA lbXA ceXG lbXG ceXC lbXC
  have hs10 := hb.size
  have B10 := Lib.hid (B9.out.trans (hb.mono B9.out.size))
  have RA10 := Lib.hid ((RA9.out.below hb (Nat.le_refl _)).more hs10)
  have RN10 := Lib.hid ((RN9.out.below hb (Nat.le_refl _)).more hs10)
  have RS10 := Lib.hid ((RS9.out.below hb (Nat.le_refl _)).more hs10)
  have XT10 := Lib.hid (XT9.out.below hb XT9.out.lt)
  have XA10 := Lib.hid (XA9.out.below hb XA9.out.lt)
  have XH10 := Lib.hid (XH9.out.below hb XH9.out.lt)
  have XC10 := Lib.hid (XC9.out.below hb XC9.out.lt)
  have RX10 := Lib.hid ((RX9.out.below hb (Nat.le_refl _)).more hs10)
  have XX10 := Lib.hid (XX9.out.below hb XX9.out.lt)
  have XG10 := Lib.hid (XG9.out.below hb XG9.out.lt)
  clear hb B9 RA9 RN9 RS9 XT9 XA9 XH9 XC9 RX9 XX9 XG9
  go_upto_region 14 with fail
  obtain ⟨v11, hnw⟩ : ∃ zq, zq = v10.alloc (.cells #[.int .i64 h2.h, .int .i64 h2.t, .string h2.last, .string h2.vals, .string h2.next, .string h2.data, .slice A4 l2.length c4] 30) := ⟨_, rfl⟩
  rw [← hnw]
  have hb : Below v10.heap.size v10 v11 := by rw [hnw]; exact (Below.refl _ _).alloc (Nat.le_refl _) _
  have hxx : Blk v11 v10.heap.size 30 #[.int .i64 h2.h, .int .i64 h2.t, .string h2.last, .string h2.vals, .string h2.next, .string h2.data, .slice A4 l2.length c4] := by rw [hnw]; exact heap_alloc_new v10 _
  clear hnw
  have hs11 := hb.size
  have B11 := Lib.hid (B10.out.trans (hb.mono B10.out.size))
  have RA11 := Lib.hid ((RA10.out.below hb (Nat.le_refl _)).more hs11)
  have RN11 := Lib.hid ((RN10.out.below hb (Nat.le_refl _)).more hs11)
  have RS11 := Lib.hid ((RS10.out.below hb (Nat.le_refl _)).more hs11)
  have XT11 := Lib.hid (XT10.out.below hb XT10.out.lt)
  have XA11 := Lib.hid (XA10.out.below hb XA10.out.lt)
  have XH11 := Lib.hid (XH10.out.below hb XH10.out.lt)
  have XC11 := Lib.hid (XC10.out.below hb XC10.out.lt)
  have RX11 := Lib.hid ((RX10.out.below hb (Nat.le_refl _)).more hs11)
  have XX11 := Lib.hid (XX10.out.below hb XX10.out.lt)
  have XG11 := Lib.hid (XG10.out.below hb XG10.out.lt)
  clear hb B10 RA10 RN10 RS10 XT10 XA10 XH10 XC10 RX10 XX10 XG10
  have X411 := Lib.hid hxx
  have ltX4 := hxx.lt
  clear hxx
  clear X411
  clear HAG HBE
  obtain ⟨-, -, -, -, -, -, -, g8, g9, -, -, -⟩ := ver_ok HV0.out
  have HEN := Lib.hid (ver_enough HV0.out)
  have HAN := Lib.hid (ver_anchor HV0.out)
  clear HV0
  have g8' : sa.t < sh.t := by omega
  have g8b : decide (sa.t < sh.t) = true := decide_eq_true g8'
  have ceXX := XX11.out.cell
  have lbXX := XX11.out.lt
  have ceXA := XA11.out.cell
  have lbXA := XA11.out.lt
  have ceXH := XH11.out.cell
  have lbXH := XH11.out.lt
  have ceXC := XC11.out.cell
  have lbXC := XC11.out.lt
  have ceXG := XG11.out.cell
  have lbXG := XG11.out.lt
  have RXQ := RX11
  have RAQ := RA11
  have RSQ := RS11
  have HAO : ∀ wx : World, RdL valC 2 wx wx.heap.size Ax nl.length cx nl → Hid (Calls Tryz.prog 10 #[.agg #[.int .i64 sh.h, .int .i64 sh.t, .string sh.last, .string sh.vals, .string sh.next, .string sh.data, .slice Ax nl.length cx]] wx fun e w' => e = .returned (.bool true) ∧ Below wx.heap.size wx w') := fun wx h => by
    have hq := sAnchorOk_any sh Ax _ cx nl wx h
    rw [HAN.out] at hq
    exact hq
  have HHI : ∀ wx : World, Hid (Calls Tryz.prog 11 #[.agg #[.int .i64 sa.h, .int .i64 sa.t, .string sa.last, .string sa.vals, .string sa.next, .string sa.data]] wx fun e w' => e = .returned (.string (headIdB sa)) ∧ Below wx.heap.size wx w') := fun wx => sHeadId_any sa wx
  have HHG : ∀ wx : World, Hid (Calls Tryz.prog 11 #[.agg #[.int .i64 sh.h, .int .i64 sh.t, .string sh.last, .string sh.vals, .string sh.next, .string ⟨#[122, 122]⟩]] wx fun e w' => e = .returned (.string (headIdB (bentH sh))) ∧ Below wx.heap.size wx w') := fun wx => sHeadId_any (bentH sh) wx
  have HHH : ∀ wx : World, Hid (Calls Tryz.prog 11 #[.agg #[.int .i64 sh.h, .int .i64 sh.t, .string sh.last, .string sh.vals, .string sh.next, .string sh.data]] wx fun e w' => e = .returned (.string (headIdB sh)) ∧ Below wx.heap.size wx w') := fun wx => sHeadId_any sh wx
  generalize headIdB sa = ia at *
  generalize headIdB (bentH sh) = ig at *
  generalize headIdB sh = ih at *
  clear HAN g8
  refine wp_region_splitG 25 (Below v11.heap.size v11) (by kernel_rfl) (by decide) (by kernel_rfl) (by kernel_rfl) (Below.refl _ _).drew ?_
  simp only [List.take_succ_cons, List.take_zero]
  repeat (first | go_big_quiet_skip | (go_big_quiet_want; go_big_quiet_op; first | go_big_quiet_on | (apply Exists.intro; refine ⟨fun w1 hC => ?_, ?_⟩; (focus (first | rfl | (go_at_call 10; exact quiet_below hC ((HAO _ (by exact (RXQ.out.below hC (Nat.le_refl _)).more hC.size)).out)) | (go_at_call 11; exact quiet_below hC ((HHI _).out)) | (simp [(bcell hC).1, ceXX, lbXX, ceXA, lbXA, ceXH, lbXH]; done) | (simp [(bcell hC).1, ceXX, lbXX, ceXA, lbXA, ceXH, lbXH]; rfl))); go_big_quiet_on)))
  refine wpQuiet_nil ?_
  intro w2 hb2
  have hz2 : v11.heap.size ≤ w2.heap.size := hb2.size
  have dXA : ∀ i, w2.cell? ⟨(v1.heap.size + 1), i, none⟩ = _ := fun i => (hb2.cell (p := ⟨(v1.heap.size + 1), i, none⟩) lbXA).trans (ceXA i)
  have dXC : ∀ i, w2.cell? ⟨(v1.heap.size + 1 + 1 + 1), i, none⟩ = _ := fun i => (hb2.cell (p := ⟨(v1.heap.size + 1 + 1 + 1), i, none⟩) lbXC).trans (ceXC i)
  have dXG : ∀ i, w2.cell? ⟨v8.heap.size, i, none⟩ = _ := fun i => (hb2.cell (p := ⟨v8.heap.size, i, none⟩) lbXG).trans (ceXG i)
  have dXH : ∀ i, w2.cell? ⟨(v1.heap.size + 1 + 1), i, none⟩ = _ := fun i => (hb2.cell (p := ⟨(v1.heap.size + 1 + 1), i, none⟩) lbXH).trans (ceXH i)
  have lA2 : (v1.heap.size + 1) < w2.heap.size := by omega
  have lC2 : (v1.heap.size + 1 + 1 + 1) < w2.heap.size := by omega
  have HW2 := Lib.hid hb2
  clear hb2
  show wpAny _ _ _ _ 22 _ _ _
  refine wpAny_take (i := 25) (v := ?_) rfl (by kernel_rfl) (by kernel_rfl) (by kernel_rfl) (fun _ _ _ h => h) (Or.inl ⟨by rfl, ?_⟩) ?_
  rotate_left
  · intro wt
    go_simp
    try with_reducible rfl
  try show wpAny _ _ _ _ _ _ _ _
  have HBQ := HBT.out
  cases hb9 : (r2 == 9)
  all_goals
    rw [hb9] at HBQ
  · have ge : (ig.toList == ih.toList) = true := by simpa using HBQ
    clear HBQ
    refine wpAny_ready (rs := [26, 27]) (by kernel_rfl) (by simp) ?_
    refine AllReady.cons rfl (fun K hK => ?_) (AllReady.cons rfl (fun K hK => ?_) AllReady.nil)
    · go_simp
      refine hK _ _ ?_
      clear hK K
      refine wpAny_ready (rs := [27]) (by kernel_rfl) (by simp) ?_
      refine AllReady.cons rfl (fun K hK => ?_) AllReady.nil
      go_simp
      refine hK _ _ ?_
      clear hK K
      refine wpAny_ready (rs := [28]) (by kernel_rfl) (by simp) ?_
      refine AllReady.cons rfl (fun K hK => ?_) AllReady.nil
      go_simp
      refine (sCommitVals_any pc D _ q sg _ ((RSQ.out.below HW2.out (Nat.le_refl _)).more hz2)).mono ?_
      rintro e w3 ⟨A7, c7, rfl, hr3, hb3⟩
      have HR3 := Lib.hid hr3
      have HW3 := Lib.hid (HW2.out.trans (hb3.mono hz2))
      have hz3 := hb3.size
      have HB3 := Lib.hid hb3
      clear hr3 hb3
      refine hK _ _ ?_
      clear hK K
      refine wpAny_ready (rs := [29]) (by kernel_rfl) (by simp) ?_
      refine AllReady.cons rfl (fun K hK => ?_) AllReady.nil
      go_simp
      refine (sEnough_any Aa al.length ca al A7 _ c7 (cvL pc sg) _ ((RAQ.out.below HW3.out (Nat.le_refl _)).more HW3.out.size) HR3.out).mono ?_
      rintro e w4 ⟨rfl, hb4⟩
      rw [HEN.out]
      have HW4 := Lib.hid (HW3.out.trans (hb4.mono HW3.out.size))
      have hz4 : v11.heap.size ≤ w4.heap.size := HW4.out.size
      have eG : ∀ i, w4.cell? ⟨v8.heap.size, i, none⟩ = _ := fun i => (HW4.out.cell (p := ⟨v8.heap.size, i, none⟩) lbXG).trans (ceXG i)
      have eH : ∀ i, w4.cell? ⟨(v1.heap.size + 1 + 1), i, none⟩ = _ := fun i => (HW4.out.cell (p := ⟨(v1.heap.size + 1 + 1), i, none⟩) lbXH).trans (ceXH i)
      have mG : v8.heap.size < w4.heap.size := by omega
      have mH : (v1.heap.size + 1 + 1) < w4.heap.size := by omega
      clear hb4
      refine hK _ _ ?_
      clear hK K
      refine wpAny_ready (rs := [30]) (by kernel_rfl) (by simp) ?_
      refine AllReady.cons rfl (fun K hK => ?_) AllReady.nil
      go_simp
      refine hK _ _ ?_
      clear hK K
      refine wpAny_ready (rs := [31]) (by kernel_rfl) (by simp) ?_
      refine AllReady.cons rfl (fun K hK => ?_) AllReady.nil
      go_simp
      refine hK _ _ ?_
      clear hK K
      refine wpAny_quietL (P := Tryz.prog) 32 47 (Below w4.heap.size w4) (by kernel_rfl) (by kernel_rfl) (by decide) (by decide) (by kernel_rfl) (by kernel_rfl) (by kernel_rfl) (by kernel_rfl) (Below.refl _ _) ?_
      simp only [List.take_succ_cons, List.take_zero, List.drop_succ_cons, List.drop_zero]
      repeat (first | go_big_quiet_skip | (go_big_quiet_want; go_big_quiet_op; first | go_big_quiet_on | (apply Exists.intro; refine ⟨fun w1 hC => ?_, ?_⟩; (focus (first | rfl | (go_at_call 11; exact quiet_below hC ((HHG _).out)) | (go_at_call 11; exact quiet_below hC ((HHH _).out)) | (simp [(bcell hC).1, eG, eH, mG, mH]; done) | (simp [(bcell hC).1, eG, eH, mG, mH]; rfl))); go_big_quiet_on)))
      refine wpQuiet_nil ?_
      intro w5 hb5
      show wpAny _ _ _ _ 0 _ _ _
      refine wpAny_done (by kernel_rfl) ?_ _
      go_wp2_with fail
      go_ret
      exact ⟨rfl, B11.out.trans ((HW4.out.trans (hb5.mono hz4)).mono B11.out.size)⟩
    · go_simp
      refine hK _ _ ?_
      clear hK K
      refine wpAny_ready (rs := [26, 28]) (by kernel_rfl) (by simp) ?_
      refine AllReady.cons rfl (fun K hK => ?_) (AllReady.cons rfl (fun K hK => ?_) AllReady.nil)
      · go_simp
        refine hK _ _ ?_
        clear hK K
        refine wpAny_ready (rs := [28]) (by kernel_rfl) (by simp) ?_
        refine AllReady.cons rfl (fun K hK => ?_) AllReady.nil
        go_simp
        refine (sCommitVals_any pc D _ q sg _ ((RSQ.out.below HW2.out (Nat.le_refl _)).more hz2)).mono ?_
        rintro e w3 ⟨A7, c7, rfl, hr3, hb3⟩
        have HR3 := Lib.hid hr3
        have HW3 := Lib.hid (HW2.out.trans (hb3.mono hz2))
        have hz3 := hb3.size
        have HB3 := Lib.hid hb3
        clear hr3 hb3
        refine hK _ _ ?_
        clear hK K
        refine wpAny_ready (rs := [29]) (by kernel_rfl) (by simp) ?_
        refine AllReady.cons rfl (fun K hK => ?_) AllReady.nil
        go_simp
        refine (sEnough_any Aa al.length ca al A7 _ c7 (cvL pc sg) _ ((RAQ.out.below HW3.out (Nat.le_refl _)).more HW3.out.size) HR3.out).mono ?_
        rintro e w4 ⟨rfl, hb4⟩
        rw [HEN.out]
        have HW4 := Lib.hid (HW3.out.trans (hb4.mono HW3.out.size))
        have hz4 : v11.heap.size ≤ w4.heap.size := HW4.out.size
        have eG : ∀ i, w4.cell? ⟨v8.heap.size, i, none⟩ = _ := fun i => (HW4.out.cell (p := ⟨v8.heap.size, i, none⟩) lbXG).trans (ceXG i)
        have eH : ∀ i, w4.cell? ⟨(v1.heap.size + 1 + 1), i, none⟩ = _ := fun i => (HW4.out.cell (p := ⟨(v1.heap.size + 1 + 1), i, none⟩) lbXH).trans (ceXH i)
        have mG : v8.heap.size < w4.heap.size := by omega
        have mH : (v1.heap.size + 1 + 1) < w4.heap.size := by omega
        clear hb4
        refine hK _ _ ?_
        clear hK K
        refine wpAny_ready (rs := [30]) (by kernel_rfl) (by simp) ?_
        refine AllReady.cons rfl (fun K hK => ?_) AllReady.nil
        go_simp
        refine hK _ _ ?_
        clear hK K
        refine wpAny_ready (rs := [31]) (by kernel_rfl) (by simp) ?_
        refine AllReady.cons rfl (fun K hK => ?_) AllReady.nil
        go_simp
        refine hK _ _ ?_
        clear hK K
        refine wpAny_quietL (P := Tryz.prog) 32 47 (Below w4.heap.size w4) (by kernel_rfl) (by kernel_rfl) (by decide) (by decide) (by kernel_rfl) (by kernel_rfl) (by kernel_rfl) (by kernel_rfl) (Below.refl _ _) ?_
        simp only [List.take_succ_cons, List.take_zero, List.drop_succ_cons, List.drop_zero]
        repeat (first | go_big_quiet_skip | (go_big_quiet_want; go_big_quiet_op; first | go_big_quiet_on | (apply Exists.intro; refine ⟨fun w1 hC => ?_, ?_⟩; (focus (first | rfl | (go_at_call 11; exact quiet_below hC ((HHG _).out)) | (go_at_call 11; exact quiet_below hC ((HHH _).out)) | (simp [(bcell hC).1, eG, eH, mG, mH]; done) | (simp [(bcell hC).1, eG, eH, mG, mH]; rfl))); go_big_quiet_on)))
        refine wpQuiet_nil ?_
        intro w5 hb5
        show wpAny _ _ _ _ 0 _ _ _
        refine wpAny_done (by kernel_rfl) ?_ _
        go_wp2_with fail
        go_ret
        exact ⟨rfl, B11.out.trans ((HW4.out.trans (hb5.mono hz4)).mono B11.out.size)⟩
      · go_simp
        refine (sCommitVals_any pc D _ q sg _ ((RSQ.out.below HW2.out (Nat.le_refl _)).more hz2)).mono ?_
        rintro e w3 ⟨A7, c7, rfl, hr3, hb3⟩
        have HR3 := Lib.hid hr3
        have HW3 := Lib.hid (HW2.out.trans (hb3.mono hz2))
        have hz3 := hb3.size
        have HB3 := Lib.hid hb3
        clear hr3 hb3
        refine hK _ _ ?_
        clear hK K
        have fA : ∀ i, w3.cell? ⟨(v1.heap.size + 1), i, none⟩ = _ := fun i => (HB3.out.cell (p := ⟨(v1.heap.size + 1), i, none⟩) lA2).trans (dXA i)
        refine wpAny_ready (rs := [26]) (by kernel_rfl) (by simp) ?_
        refine AllReady.cons rfl (fun K hK => ?_) AllReady.nil
        go_simp
        refine hK _ _ ?_
        clear hK K
        refine wpAny_ready (rs := [29]) (by kernel_rfl) (by simp) ?_
        refine AllReady.cons rfl (fun K hK => ?_) AllReady.nil
        go_simp
        refine (sEnough_any Aa al.length ca al A7 _ c7 (cvL pc sg) _ ((RAQ.out.below HW3.out (Nat.le_refl _)).more HW3.out.size) HR3.out).mono ?_
        rintro e w4 ⟨rfl, hb4⟩
        rw [HEN.out]
        have HW4 := Lib.hid (HW3.out.trans (hb4.mono HW3.out.size))
        have hz4 : v11.heap.size ≤ w4.heap.size := HW4.out.size
        have eG : ∀ i, w4.cell? ⟨v8.heap.size, i, none⟩ = _ := fun i => (HW4.out.cell (p := ⟨v8.heap.size, i, none⟩) lbXG).trans (ceXG i)
        have eH : ∀ i, w4.cell? ⟨(v1.heap.size + 1 + 1), i, none⟩ = _ := fun i => (HW4.out.cell (p := ⟨(v1.heap.size + 1 + 1), i, none⟩) lbXH).trans (ceXH i)
        have mG : v8.heap.size < w4.heap.size := by omega
        have mH : (v1.heap.size + 1 + 1) < w4.heap.size := by omega
        clear hb4
        refine hK _ _ ?_
        clear hK K
        refine wpAny_ready (rs := [30]) (by kernel_rfl) (by simp) ?_
        refine AllReady.cons rfl (fun K hK => ?_) AllReady.nil
        go_simp
        refine hK _ _ ?_
        clear hK K
        refine wpAny_ready (rs := [31]) (by kernel_rfl) (by simp) ?_
        refine AllReady.cons rfl (fun K hK => ?_) AllReady.nil
        go_simp
        refine hK _ _ ?_
        clear hK K
        refine wpAny_quietL (P := Tryz.prog) 32 47 (Below w4.heap.size w4) (by kernel_rfl) (by kernel_rfl) (by decide) (by decide) (by kernel_rfl) (by kernel_rfl) (by kernel_rfl) (by kernel_rfl) (Below.refl _ _) ?_
        simp only [List.take_succ_cons, List.take_zero, List.drop_succ_cons, List.drop_zero]
        repeat (first | go_big_quiet_skip | (go_big_quiet_want; go_big_quiet_op; first | go_big_quiet_on | (apply Exists.intro; refine ⟨fun w1 hC => ?_, ?_⟩; (focus (first | rfl | (go_at_call 11; exact quiet_below hC ((HHG _).out)) | (go_at_call 11; exact quiet_below hC ((HHH _).out)) | (simp [(bcell hC).1, eG, eH, mG, mH]; done) | (simp [(bcell hC).1, eG, eH, mG, mH]; rfl))); go_big_quiet_on)))
        refine wpQuiet_nil ?_
        intro w5 hb5
        show wpAny _ _ _ _ 0 _ _ _
        refine wpAny_done (by kernel_rfl) ?_ _
        go_wp2_with fail
        go_ret
        exact ⟨rfl, B11.out.trans ((HW4.out.trans (hb5.mono hz4)).mono B11.out.size)⟩
  · have ge : True := trivial
    clear HBQ
    refine wpAny_ready (rs := [26, 27]) (by kernel_rfl) (by simp) ?_
    refine AllReady.cons rfl (fun K hK => ?_) (AllReady.cons rfl (fun K hK => ?_) AllReady.nil)
    · go_simp
      refine hK _ _ ?_
      clear hK K
      refine wpAny_ready (rs := [27]) (by kernel_rfl) (by simp) ?_
      refine AllReady.cons rfl (fun K hK => ?_) AllReady.nil
      go_simp
      refine hK _ _ ?_
      clear hK K
      refine wpAny_ready (rs := [28]) (by kernel_rfl) (by simp) ?_
      refine AllReady.cons rfl (fun K hK => ?_) AllReady.nil
      go_simp
      refine (sCommitVals_any pc D _ q sg _ ((RSQ.out.below HW2.out (Nat.le_refl _)).more hz2)).mono ?_
      rintro e w3 ⟨A7, c7, rfl, hr3, hb3⟩
      have HR3 := Lib.hid hr3
      have HW3 := Lib.hid (HW2.out.trans (hb3.mono hz2))
      have hz3 := hb3.size
      have HB3 := Lib.hid hb3
      clear hr3 hb3
      refine hK _ _ ?_
      clear hK K
      refine wpAny_ready (rs := [29]) (by kernel_rfl) (by simp) ?_
      refine AllReady.cons rfl (fun K hK => ?_) AllReady.nil
      go_simp
      refine (sEnough_any Aa al.length ca al A7 _ c7 (cvL pc sg) _ ((RAQ.out.below HW3.out (Nat.le_refl _)).more HW3.out.size) HR3.out).mono ?_
      rintro e w4 ⟨rfl, hb4⟩
      rw [HEN.out]
      have HW4 := Lib.hid (HW3.out.trans (hb4.mono HW3.out.size))
      have hz4 : v11.heap.size ≤ w4.heap.size := HW4.out.size
      have eG : ∀ i, w4.cell? ⟨v8.heap.size, i, none⟩ = _ := fun i => (HW4.out.cell (p := ⟨v8.heap.size, i, none⟩) lbXG).trans (ceXG i)
      have eH : ∀ i, w4.cell? ⟨(v1.heap.size + 1 + 1), i, none⟩ = _ := fun i => (HW4.out.cell (p := ⟨(v1.heap.size + 1 + 1), i, none⟩) lbXH).trans (ceXH i)
      have mG : v8.heap.size < w4.heap.size := by omega
      have mH : (v1.heap.size + 1 + 1) < w4.heap.size := by omega
      clear hb4
      refine hK _ _ ?_
      clear hK K
      refine wpAny_ready (rs := [30]) (by kernel_rfl) (by simp) ?_
      refine AllReady.cons rfl (fun K hK => ?_) AllReady.nil
      go_simp
      refine hK _ _ ?_
      clear hK K
      refine wpAny_ready (rs := [31]) (by kernel_rfl) (by simp) ?_
      refine AllReady.cons rfl (fun K hK => ?_) AllReady.nil
      go_simp
      refine hK _ _ ?_
      clear hK K
      refine wpAny_quietL (P := Tryz.prog) 32 47 (Below w4.heap.size w4) (by kernel_rfl) (by kernel_rfl) (by decide) (by decide) (by kernel_rfl) (by kernel_rfl) (by kernel_rfl) (by kernel_rfl) (Below.refl _ _) ?_
      simp only [List.take_succ_cons, List.take_zero, List.drop_succ_cons, List.drop_zero]
      repeat (first | go_big_quiet_skip | (go_big_quiet_want; go_big_quiet_op; first | go_big_quiet_on | (apply Exists.intro; refine ⟨fun w1 hC => ?_, ?_⟩; (focus (first | rfl | (go_at_call 11; exact quiet_below hC ((HHG _).out)) | (go_at_call 11; exact quiet_below hC ((HHH _).out)) | (simp [(bcell hC).1, eG, eH, mG, mH, hb9, ge]; done) | (simp [(bcell hC).1, eG, eH, mG, mH, hb9, ge]; rfl))); go_big_quiet_on)))
      refine wpQuiet_nil ?_
      intro w5 hb5
      show wpAny _ _ _ _ 0 _ _ _
      refine wpAny_done (by kernel_rfl) ?_ _
      go_wp2_with fail
      go_ret
      exact ⟨rfl, B11.out.trans ((HW4.out.trans (hb5.mono hz4)).mono B11.out.size)⟩
    · go_simp
      refine hK _ _ ?_
      clear hK K
      refine wpAny_ready (rs := [26, 28]) (by kernel_rfl) (by simp) ?_
      refine AllReady.cons rfl (fun K hK => ?_) (AllReady.cons rfl (fun K hK => ?_) AllReady.nil)
      · go_simp
        refine hK _ _ ?_
        clear hK K
        refine wpAny_ready (rs := [28]) (by kernel_rfl) (by simp) ?_
        refine AllReady.cons rfl (fun K hK => ?_) AllReady.nil
        go_simp
        refine (sCommitVals_any pc D _ q sg _ ((RSQ.out.below HW2.out (Nat.le_refl _)).more hz2)).mono ?_
        rintro e w3 ⟨A7, c7, rfl, hr3, hb3⟩
        have HR3 := Lib.hid hr3
        have HW3 := Lib.hid (HW2.out.trans (hb3.mono hz2))
        have hz3 := hb3.size
        have HB3 := Lib.hid hb3
        clear hr3 hb3
        refine hK _ _ ?_
        clear hK K
        refine wpAny_ready (rs := [29]) (by kernel_rfl) (by simp) ?_
        refine AllReady.cons rfl (fun K hK => ?_) AllReady.nil
        go_simp
        refine (sEnough_any Aa al.length ca al A7 _ c7 (cvL pc sg) _ ((RAQ.out.below HW3.out (Nat.le_refl _)).more HW3.out.size) HR3.out).mono ?_
        rintro e w4 ⟨rfl, hb4⟩
        rw [HEN.out]
        have HW4 := Lib.hid (HW3.out.trans (hb4.mono HW3.out.size))
        have hz4 : v11.heap.size ≤ w4.heap.size := HW4.out.size
        have eG : ∀ i, w4.cell? ⟨v8.heap.size, i, none⟩ = _ := fun i => (HW4.out.cell (p := ⟨v8.heap.size, i, none⟩) lbXG).trans (ceXG i)
        have eH : ∀ i, w4.cell? ⟨(v1.heap.size + 1 + 1), i, none⟩ = _ := fun i => (HW4.out.cell (p := ⟨(v1.heap.size + 1 + 1), i, none⟩) lbXH).trans (ceXH i)
        have mG : v8.heap.size < w4.heap.size := by omega
        have mH : (v1.heap.size + 1 + 1) < w4.heap.size := by omega
        clear hb4
        refine hK _ _ ?_
        clear hK K
        refine wpAny_ready (rs := [30]) (by kernel_rfl) (by simp) ?_
        refine AllReady.cons rfl (fun K hK => ?_) AllReady.nil
        go_simp
        refine hK _ _ ?_
        clear hK K
        refine wpAny_ready (rs := [31]) (by kernel_rfl) (by simp) ?_
        refine AllReady.cons rfl (fun K hK => ?_) AllReady.nil
        go_simp
        refine hK _ _ ?_
        clear hK K
        refine wpAny_quietL (P := Tryz.prog) 32 47 (Below w4.heap.size w4) (by kernel_rfl) (by kernel_rfl) (by decide) (by decide) (by kernel_rfl) (by kernel_rfl) (by kernel_rfl) (by kernel_rfl) (Below.refl _ _) ?_
        simp only [List.take_succ_cons, List.take_zero, List.drop_succ_cons, List.drop_zero]
        repeat (first | go_big_quiet_skip | (go_big_quiet_want; go_big_quiet_op; first | go_big_quiet_on | (apply Exists.intro; refine ⟨fun w1 hC => ?_, ?_⟩; (focus (first | rfl | (go_at_call 11; exact quiet_below hC ((HHG _).out)) | (go_at_call 11; exact quiet_below hC ((HHH _).out)) | (simp [(bcell hC).1, eG, eH, mG, mH, hb9, ge]; done) | (simp [(bcell hC).1, eG, eH, mG, mH, hb9, ge]; rfl))); go_big_quiet_on)))
        refine wpQuiet_nil ?_
        intro w5 hb5
        show wpAny _ _ _ _ 0 _ _ _
        refine wpAny_done (by kernel_rfl) ?_ _
        go_wp2_with fail
        go_ret
        exact ⟨rfl, B11.out.trans ((HW4.out.trans (hb5.mono hz4)).mono B11.out.size)⟩
      · go_simp
        refine (sCommitVals_any pc D _ q sg _ ((RSQ.out.below HW2.out (Nat.le_refl _)).more hz2)).mono ?_
        rintro e w3 ⟨A7, c7, rfl, hr3, hb3⟩
        have HR3 := Lib.hid hr3
        have HW3 := Lib.hid (HW2.out.trans (hb3.mono hz2))
        have hz3 := hb3.size
        have HB3 := Lib.hid hb3
        clear hr3 hb3
        refine hK _ _ ?_
        clear hK K
        have fA : ∀ i, w3.cell? ⟨(v1.heap.size + 1), i, none⟩ = _ := fun i => (HB3.out.cell (p := ⟨(v1.heap.size + 1), i, none⟩) lA2).trans (dXA i)
        refine wpAny_ready (rs := [26]) (by kernel_rfl) (by simp) ?_
        refine AllReady.cons rfl (fun K hK => ?_) AllReady.nil
        go_simp
        refine hK _ _ ?_
        clear hK K
        refine wpAny_ready (rs := [29]) (by kernel_rfl) (by simp) ?_
        refine AllReady.cons rfl (fun K hK => ?_) AllReady.nil
        go_simp
        refine (sEnough_any Aa al.length ca al A7 _ c7 (cvL pc sg) _ ((RAQ.out.below HW3.out (Nat.le_refl _)).more HW3.out.size) HR3.out).mono ?_
        rintro e w4 ⟨rfl, hb4⟩
        rw [HEN.out]
        have HW4 := Lib.hid (HW3.out.trans (hb4.mono HW3.out.size))
        have hz4 : v11.heap.size ≤ w4.heap.size := HW4.out.size
        have eG : ∀ i, w4.cell? ⟨v8.heap.size, i, none⟩ = _ := fun i => (HW4.out.cell (p := ⟨v8.heap.size, i, none⟩) lbXG).trans (ceXG i)
        have eH : ∀ i, w4.cell? ⟨(v1.heap.size + 1 + 1), i, none⟩ = _ := fun i => (HW4.out.cell (p := ⟨(v1.heap.size + 1 + 1), i, none⟩) lbXH).trans (ceXH i)
        have mG : v8.heap.size < w4.heap.size := by omega
        have mH : (v1.heap.size + 1 + 1) < w4.heap.size := by omega
        clear hb4
        refine hK _ _ ?_
        clear hK K
        refine wpAny_ready (rs := [30]) (by kernel_rfl) (by simp) ?_
        refine AllReady.cons rfl (fun K hK => ?_) AllReady.nil
        go_simp
        refine hK _ _ ?_
        clear hK K
        refine wpAny_ready (rs := [31]) (by kernel_rfl) (by simp) ?_
        refine AllReady.cons rfl (fun K hK => ?_) AllReady.nil
        go_simp
        refine hK _ _ ?_
        clear hK K
        refine wpAny_quietL (P := Tryz.prog) 32 47 (Below w4.heap.size w4) (by kernel_rfl) (by kernel_rfl) (by decide) (by decide) (by kernel_rfl) (by kernel_rfl) (by kernel_rfl) (by kernel_rfl) (Below.refl _ _) ?_
        simp only [List.take_succ_cons, List.take_zero, List.drop_succ_cons, List.drop_zero]
        repeat (first | go_big_quiet_skip | (go_big_quiet_want; go_big_quiet_op; first | go_big_quiet_on | (apply Exists.intro; refine ⟨fun w1 hC => ?_, ?_⟩; (focus (first | rfl | (go_at_call 11; exact quiet_below hC ((HHG _).out)) | (go_at_call 11; exact quiet_below hC ((HHH _).out)) | (simp [(bcell hC).1, eG, eH, mG, mH, hb9, ge]; done) | (simp [(bcell hC).1, eG, eH, mG, mH, hb9, ge]; rfl))); go_big_quiet_on)))
        refine wpQuiet_nil ?_
        intro w5 hb5
        show wpAny _ _ _ _ 0 _ _ _
        refine wpAny_done (by kernel_rfl) ?_ _
        go_wp2_with fail
        go_ret
        exact ⟨rfl, B11.out.trans ((HW4.out.trans (hb5.mono hz4)).mono B11.out.size)⟩

set_option maxRecDepth 100000 in
set_option maxHeartbeats 2000000 in
theorem FnVerify_lifted (os : Os) (started : os.Started) (H : Type) (enc : TypeId × Value → H) :
    ReturnsInHanded {} Tryz.checked os 3 .any (fun w args => (Rows.fnVerifySpec.pre enc Tryz.prog Tryz.f3 Rows.fnVerifyRow.domain false w args ∧ laidMet Tryz.prog Rows.fnVerifyRow.laid w) ∧ sizedMet enc Tryz.prog Tryz.f3 (OpenSpec.ofChange Rows.fnVerifySpec) false w args)
      (Rows.fnVerifySpec.post enc Tryz.prog Tryz.f3 false true false false) := by
  refine returnsInHanded_of_change_and (C := Tryz.checked) (X := fun w _ => laidMet Tryz.prog Rows.fnVerifyRow.laid w) (fun _ _ _ hh h => h.of_heap hh) own started (by kernel_rfl) Tryz.func3
    (ChangeSpec.witness_at (enc := enc) (C := Tryz.checked) (os := os) (X := fun w _ => laidMet Tryz.prog Rows.fnVerifyRow.laid w) false (tabWorld os) #[.slice none 0 0] 8 rfl (by kernel_rfl) (by kernel_rfl) (by kernel_rfl) (by kernel_rfl) (by kernel_rfl) (tabWorld_met os _)) ?_
  intro W base args ds gs before hval0 hW hcnd _ hL _
  have hval : ∀ (j : Nat) t v, Tryz.f3.params[j]? = some t → args[j]? = some v → Value.okWide Tryz.prog W .any base t v := hval0
  have hW' := hW
  obtain ⟨p, q, hA0, hV, rfl, hfz, hnd⟩ := hW
  have hA : DataW.TrodAll enc Tryz.prog W 0 (fun _ => true) true Tryz.f3.params.toList args.toList ds p := hA0
  rw [Tryz.params3] at hA hval
  obtain ⟨v0, vs0, d0, ds0, p0, q0, hargs, rfl, rfl, h0, r0⟩ := trodAll_cons hA
  obtain ⟨rfl, rfl, rfl⟩ := trodAll_nil r0
  obtain rfl : args = #[v0] := by cases args; simp_all
  have ht := tab_of_laid hL
  obtain ⟨A, n, c, rfl, l, hl⟩ := open_code (hval 0 22 v0 rfl rfl) h0
  refine (FnVerify_walk A n c l W hl ht).mono fun r W' ⟨hr, hb⟩ => ?_
  subst hr
  exact ⟨_, rfl, law_post1 (f := Tryz.f3) (tb := 4) (t := 135) rfl Tryz.underlying4 rfl (by kernel_rfl) (by kernel_rfl) (by kernel_rfl) (fun d => rfl) (fun d => rfl) (fun d => rfl) hW' hb⟩

theorem FnVerify_row : Rows.FnVerifySaid :=
  OpenClaim.holds_of_wide 3 Tryz.f3 rfl rfl rfl rfl rfl rfl rfl ⟨rfl, rfl, rfl, rfl, rfl⟩ rfl rfl rfl rfl rfl (by kernel_rfl) Tryz.func3 (by kernel_rfl)
    (of_decide_eq_true (by kernel_rfl)) (by unfold Func.isWrapper; first | (rw [if_pos (by decide +kernel)]; kernel_rfl) | (rw [if_neg (by decide +kernel)]; exact ⟨rfl, rfl⟩))
    (fun os started H enc _ => FnVerify_lifted os started H enc)

theorem FnVerify_holds : Rows.FnVerifyCardSaid :=
  Claim7.holds_tied_plain_at .later [] [.data] true Rows.fnVerifyCard.stood.harness false
    FnVerify_row (fun _ h => by cases h) (by kernel_rfl) (fun _ h => by cases h) fnVerify_row_tie rfl ⟨rfl, rfl⟩ (by kernel_rfl) rfl
    (fun f fn hf hfn => by
      obtain rfl : f = 3 := Option.some.inj ((show Tryz.prog.funcNamed "loop.example/g00946/laws.FnVerify" = some 3 by kernel_rfl).symm.trans hf) |>.symm
      obtain rfl : fn = Tryz.f3 := (Option.some.inj (Tryz.func3.symm.trans hfn)).symm
      exact ⟨by kernel_rfl, fun j t ht => by
        rw [Tryz.params3] at ht
        have h3 : t = 22 := by
          rcases j with _ | j
          · simpa using ht.symm
          · simp at ht
        subst h3
        exact (show Tryz.prog.wantsStandIn 22 = false by kernel_rfl)⟩)
    (by kernel_rfl)

end Go.Proofs.YtelnnegfkdfpiaaGreatDoor
