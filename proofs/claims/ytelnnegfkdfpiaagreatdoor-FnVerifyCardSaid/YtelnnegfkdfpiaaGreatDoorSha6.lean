/- The program's hash of a text. (printed by sha5.py) -/
import Derived.Test.YtelnnegfkdfpiaaGreatDoorSha3
import Derived.Test.YtelnnegfkdfpiaaGreatDoorSha5
import Derived.Deep.RegionWith
import Derived.Deep.DeepCutAuto
import Derived.Deep.OwnRows
import Derived.WalkKit
import Derived.WalkSpells
import Derived.WalkLawsBesides
import Derived.Lib.Hide
namespace Go.Proofs.YtelnnegfkdfpiaaGreatDoor
open Go.RowKit

theorem zeros_conv (w : World) (g n : Nat) (h : Blk w g 5 (madeCells #[.int .u8 0] n)) :
    (convert 22 9 (.slice (some ⟨g, 0, none⟩) n n)).run Tryz.prog w = .ok (.string ⟨(List.replicate n (0 : UInt8)).toArray⟩) w := by
  have hm : ∀ j, j < n → (madeCells #[Value.int .u8 0] n)[j]? = some (.int .u8 0) := by
    intro j hj
    simp [madeCells, hj, Nat.mod_one]
  have := run_convert_bytes_back (P := Tryz.prog) w 22 9 5 ⟨g, 0, none⟩ n (List.replicate n (0 : UInt8)) Tryz.underlying22 Tryz.underlying5 Tryz.underlying9 (fun j hj => by
    have e1 : (⟨g, 0, none⟩ : Addr).add j = ⟨g, j, none⟩ := by unfold Addr.add; split <;> simp_all
    rw [e1, h.cell, hm j (by simpa using hj)]
    simp)
  rw [List.length_replicate] at this
  exact this

set_option maxRecDepth 100000 in
set_option maxHeartbeats 1000000 in
theorem Sha_any (s : ByteArray) (w : World) (hs : s.size ≤ 2097152) (ht : Tab w) :
    Calls Tryz.prog 99 #[.string s] w fun e w' => e = .returned (.string ⟨(shaL s.data.toList).toArray⟩) ∧ Below w.heap.size w w' := by
  have HT := Lib.hid ht
  have hw0 := ht.pos
  clear ht
  obtain ⟨i0, hi, hz0, hz1, hz2⟩ := info_parts infoU8
  have hzn : (64 - ((s.size : Int) + 9) % 64) % 64 = ((zN s.size : Nat) : Int) := by unfold zN; omega
  have hzb : zN s.size ≤ 63 := by unfold zN; omega
  have hmk := run_make_row (P := Tryz.prog) 22 5 i0 _ Tryz.underlying22 hi hz0 hz1 rfl .i64 .i64 (zN s.size + 1) (by rw [hz2]; omega) (by omega)
  rw [show (((zN s.size + 1 : Nat)) : Int) = (zN s.size : Int) + 1 from by omega] at hmk
  have kc : ∀ w : World, _ := fun w => zeros_conv (w.alloc (.cells (madeCells #[.int .u8 0] (zN s.size + 1)) 5)) w.heap.size (zN s.size + 1) (heap_alloc_new w _)
  have kd : ∀ w : World, _ := fun w => zeros_conv (w.alloc (.cells (madeCells #[.int .u8 0] (zN s.size + 1)) 5)).drew w.heap.size (zN s.size + 1) (heap_alloc_new w _)
  have HP : Hid ((s ++ ⟨#[128]⟩ ++ ⟨Array.replicate (zN s.size + 1) (0 : UInt8)⟩ ++ ⟨(be 7 (8 * (s.size : Int))).toArray⟩ : ByteArray) = ⟨(padL s.data.toList).toArray⟩) := by
    show _ = _
    have e := bcat (s.data.toList ++ [128] ++ List.replicate (zN s.size + 1) 0) (be 7 (8 * (s.size : Int)))
    rw [← bcat, ← bcat] at e
    rw [show padL s.data.toList = s.data.toList ++ [128] ++ List.replicate (zN s.size + 1) 0 ++ be 7 (8 * (s.size : Int)) from by unfold padL; simp]
    rw [← e]
    simp
  have HF : ∀ w, Hid (Calls Tryz.prog 111 #[.int .i64 (8 * (s.size : Int)), .int .i64 7] w fun e w' => e = .returned (.string ⟨(be 7 (8 * (s.size : Int))).toArray⟩) ∧ Below w.heap.size w w') := fun w => Fixed_any (8 * (s.size : Int)) 7 w (by decide) (by decide) (by omega) (by show _ < (72057594037927936 : Int); omega)
  have hwz : IntKind.i64.wrap ((zN s.size : Int) + 1) = (zN s.size : Int) + 1 := IntWalk.i64_in _ (by omega)
  have hb7 : (be 7 (8 * (s.size : Int))).length ≤ 7 := by rw [be_len]; omega
  go_enter Tryz.func99, Tryz.ntmps99
  go_upto_region 3 with fail
  rw [hzn]
  go_cut [5] (fun p wc => p = .string ⟨(padL s.data.toList).toArray⟩ ∧ Below w.heap.size w wc)
  case first =>
    go_region_with (go_at_call 111; (with_reducible refine (HF _).out.mono ?_); rintro e wf ⟨rfl, hb⟩; (try have kf := zeros_conv wf w.heap.size (zN s.size + 1) (Blk.below (w := (w.alloc (.cells (madeCells #[.int .u8 0] (zN s.size + 1)) 5)).drew) (heap_alloc_new w _) hb (by show w.heap.size < (w.alloc _).heap.size; rw [World.size_alloc]; omega))))
    all_goals
      go_wp2_with fail
      go_meet
      first
        | exact ⟨congrArg Value.string HP.out, (((Below.refl w.heap.size w).alloc (Nat.le_refl _) _).drew.trans (hb.mono (by show w.heap.size ≤ (w.alloc _).heap.size; rw [World.size_alloc]; omega)))⟩
        | exact ⟨congrArg Value.string HP.out, ((Below.refl w.heap.size w).drew.trans hb).alloc hb.size _⟩
  case rest =>
  obtain ⟨rfl, hb0⟩ := hcut
  clear hmk kc kd hwz hb7 HF HP
  have HB0 := Lib.hid hb0
  have HPL := Lib.hid (padL_len s.data.toList)
  have HPB : Hid ((padL s.data.toList).length ≤ 2097225) := by
    have := padL_bd s.data.toList
    show _ ≤ _
    rw [← size_list] at this; omega
  have HRes : Hid (shaL s.data.toList = outS (shaFold (padL s.data.toList) ((padL s.data.toList).length / 64))) := rfl
  generalize padL s.data.toList = P at *
  generalize hN : P.length / 64 = N at *
  have hPN : P.length = 64 * N := HPL.out
  have hNb : N ≤ 32769 := by have := HPB.out; omega
  clear hN
  obtain ⟨w1, hw1⟩ : ∃ x, x = wc := ⟨_, rfl⟩
  subst hw1
  have hz1' := hb0.size
  clear hb0
  go_wp2_with fail
  go_loopw [7] (fun i wr => ∃ (k : Nat) (v : St), k ≤ N ∧ i = .int .i64 (64 * (k : Int)) ∧ v = shaFold P k ∧ Blk wr w1.heap.size 130 #[.int .u32 v.a.toNat, .int .u32 v.b.toNat, .int .u32 v.c.toNat, .int .u32 v.d.toNat, .int .u32 v.e.toNat, .int .u32 v.f.toNat, .int .u32 v.g.toNat, .int .u32 v.h.toNat] ∧ Below w1.heap.size w1 wr) (fun i _ => 64 * N - (intOf i).toNat)
  case atStart =>
    exact ⟨0, st0, by omega, by simp, rfl, blk_newAt _ _ _ _ rfl, (Below.refl _ _).alloc (Nat.le_refl _) _⟩
  case round =>
    obtain ⟨k, v, hk, rfl, hv, B0, hb⟩ := hrel
    have HV := Lib.hid hv; have H0 := Lib.hid B0; have HB := Lib.hid hb
    have hz2' := B0.lt
    have HTr := Lib.hid (HT.out.below (HB0.out.trans (hb.mono hz1')) hw0)
    clear hv B0 hb
    have g0 : wr.cell? ⟨w1.heap.size, 0, none⟩ = some (.int .u32 v.a.toNat) := (H0.out.cell 0).trans rfl
    have g1 : wr.cell? ⟨w1.heap.size, 1, none⟩ = some (.int .u32 v.b.toNat) := (H0.out.cell 1).trans rfl
    have g2 : wr.cell? ⟨w1.heap.size, 2, none⟩ = some (.int .u32 v.c.toNat) := (H0.out.cell 2).trans rfl
    have g3 : wr.cell? ⟨w1.heap.size, 3, none⟩ = some (.int .u32 v.d.toNat) := (H0.out.cell 3).trans rfl
    have g4 : wr.cell? ⟨w1.heap.size, 4, none⟩ = some (.int .u32 v.e.toNat) := (H0.out.cell 4).trans rfl
    have g5 : wr.cell? ⟨w1.heap.size, 5, none⟩ = some (.int .u32 v.f.toNat) := (H0.out.cell 5).trans rfl
    have g6 : wr.cell? ⟨w1.heap.size, 6, none⟩ = some (.int .u32 v.g.toNat) := (H0.out.cell 6).trans rfl
    have g7 : wr.cell? ⟨w1.heap.size, 7, none⟩ = some (.int .u32 v.h.toNat) := (H0.out.cell 7).trans rfl
    by_cases hlt : k < N
    · have hsz : 64 * (k : Int) + 64 ≤ (P.length : Int) := by omega
      have hsz0 : 0 ≤ 64 * (k : Int) := by omega
      have hsz1 : 64 * (k : Int) ≤ 64 * (k : Int) + 64 := by omega
      have hsz2 : 0 ≤ 64 * (k : Int) + 64 := by omega
      have hwk : IntKind.i64.wrap (64 * (k : Int) + 64) = 64 * (k : Int) + 64 := IntWalk.i64_in _ (by omega)
      have hn1 : (64 * (k : Int)).toNat = 64 * k := by omega
      have hn2 : (64 * (k : Int) + 64).toNat = 64 * k + 64 := by omega
      have HX := Lib.hid (extract_list64 ⟨P.toArray⟩ (64 * k) (64 * k + 64))
      have HSB : ∀ wx : World, Tab wx → Hid (Calls Tryz.prog 112 #[.agg #[.int .u32 v.a.toNat, .int .u32 v.b.toNat, .int .u32 v.c.toNat, .int .u32 v.d.toNat, .int .u32 v.e.toNat, .int .u32 v.f.toNat, .int .u32 v.g.toNat, .int .u32 v.h.toNat], .string ((⟨P.toArray⟩ : ByteArray).extract (64 * k) (64 * k + 64))] wx fun e w' =>
          ∃ r : St, r = blkS ((P.drop (64 * k)).take 64) v ∧ e = .returned (.agg #[.int .u32 r.a.toNat, .int .u32 r.b.toNat, .int .u32 r.c.toNat, .int .u32 r.d.toNat, .int .u32 r.e.toNat, .int .u32 r.f.toNat, .int .u32 r.g.toNat, .int .u32 r.h.toNat]) ∧ Below wx.heap.size wx w') := by
        intro wx h
        have h2 := shaBlock_any v ((⟨P.toArray⟩ : ByteArray).extract (64 * k) (64 * k + 64)) wx (by rw [ByteArray.size_extract, size_list]; simp; omega) h
        rw [HX.out, show 64 * k + 64 - 64 * k = 64 from by omega] at h2
        exact h2
      go_wp2_with fail
      go_region_with (go_at_call 112; (refine (HSB _ (by exact HTr.out)).out.mono ?_); rintro e w2 ⟨r, hr, rfl, hb2⟩; have HR := Lib.hid hr; clear hr; have hb2 : Below wr.heap.size wr w2 := ⟨hb2.os, hb2.tape, hb2.output, hb2.size, hb2.block⟩; have q1 := (Blk.below H0.out hb2 hz2'); have q0 := q1.frozen; have y0 : w2.cell? ⟨w1.heap.size, 0, none⟩ = some (.int .u32 v.a.toNat) := (q1.cell 0).trans rfl; have y1 : w2.cell? ⟨w1.heap.size, 1, none⟩ = some (.int .u32 v.b.toNat) := (q1.cell 1).trans rfl; have y2 : w2.cell? ⟨w1.heap.size, 2, none⟩ = some (.int .u32 v.c.toNat) := (q1.cell 2).trans rfl; have y3 : w2.cell? ⟨w1.heap.size, 3, none⟩ = some (.int .u32 v.d.toNat) := (q1.cell 3).trans rfl; have y4 : w2.cell? ⟨w1.heap.size, 4, none⟩ = some (.int .u32 v.e.toNat) := (q1.cell 4).trans rfl; have y5 : w2.cell? ⟨w1.heap.size, 5, none⟩ = some (.int .u32 v.f.toNat) := (q1.cell 5).trans rfl; have y6 : w2.cell? ⟨w1.heap.size, 6, none⟩ = some (.int .u32 v.g.toNat) := (q1.cell 6).trans rfl; have y7 : w2.cell? ⟨w1.heap.size, 7, none⟩ = some (.int .u32 v.h.toNat) := (q1.cell 7).trans rfl)
      all_goals
        go_wp2_with fail
        go_roundw
        case rel =>
          refine ⟨k + 1, r, by omega, by rw [show (64 * ((k + 1 : Nat) : Int)) = 64 * (k : Int) + 64 from by omega], ?_, ?_, ?_⟩
          · show r = blkS ((P.drop (64 * k)).take 64) (shaFold P k)
            rw [← HV.out]; exact HR.out
          · exact q1.set8 _ _ _ _ _ _ _ _
          · repeat with_reducible refine Below.setCell ?_ (by exact Nat.le_refl _) _
            exact HB.out.trans (hb2.mono HB.out.size)
        case measure => simp [intOf]; omega
    · obtain rfl : k = N := by omega
      clear hk hlt
      obtain ⟨w3, hw3⟩ : ∃ x, x = wr := ⟨_, rfl⟩
      subst hw3
      have HF4 : ∀ (x : W32) (w : World), Hid (Calls Tryz.prog 111 #[.int .i64 x.toNat, .int .i64 4] w fun e w' => e = .returned (.string ⟨(be 4 x.toNat).toArray⟩) ∧ Below w.heap.size w w') := fun x w => Fixed_any (x.toNat : Int) 4 w (by decide) (by decide) (by omega) (be4_lt x)
      have hl4 : ∀ x : Int, (be 4 x).length ≤ 4 := fun x => by rw [be_len]; omega
      go_wp2_with fail
      clear g0 g1 g2 g3 g4 g5 g6 g7
      go_loopw [8, 45] (fun o i wr => ∃ (k : Nat), k ≤ 8 ∧ i = .int .i64 k ∧ o = .string ⟨(bytesTo v k).toArray⟩ ∧ Below w3.heap.size w3 wr) (fun _ i _ => 8 - (intOf i).toNat)
      case atStart => exact ⟨0, by omega, rfl, rfl, Below.refl _ _⟩
      case round =>
        obtain ⟨k, hk, rfl, rfl, hb⟩ := hrel
        have HB3 := Lib.hid hb
        have hlen : (bytesTo v k).length ≤ 32 := by rw [bytesTo_len v k hk]; omega
        clear hb
        by_cases hlt : k < 8
        · have HNx := Lib.hid (bytesTo_next v k hlt)
          generalize hL : bytesTo v k = L at *
          have HL := Lib.hid hL; clear hL
          rcases (by omega : k = 0 ∨ k = 1 ∨ k = 2 ∨ k = 3 ∨ k = 4 ∨ k = 5 ∨ k = 6 ∨ k = 7) with rfl | rfl | rfl | rfl | rfl | rfl | rfl | rfl
          · have q := hl4 v.a.toNat
            have ix : ∀ w, (Instr.index 130 (.agg #[.int .u32 v.a.toNat, .int .u32 v.b.toNat, .int .u32 v.c.toNat, .int .u32 v.d.toNat, .int .u32 v.e.toNat, .int .u32 v.f.toNat, .int .u32 v.g.toNat, .int .u32 v.h.toNat]) (.int .i64 0)).run Tryz.prog w = .ok (.int .u32 v.a.toNat) w := fun _ => by kernel_rfl
            go_wp2_with (go_at_call 111; (with_reducible refine (HF4 v.a _).out.mono ?_); rintro e w4 ⟨rfl, hb4⟩; have HB4 := Lib.hid (HB3.out.trans (hb4.mono HB3.out.size)); clear hb4)
            go_roundw
            case rel => exact ⟨1, by omega, rfl, by rw [HNx.out, bcat]; rfl, HB4.out⟩
            case measure => simp [intOf]
          · have q := hl4 v.b.toNat
            have ix : ∀ w, (Instr.index 130 (.agg #[.int .u32 v.a.toNat, .int .u32 v.b.toNat, .int .u32 v.c.toNat, .int .u32 v.d.toNat, .int .u32 v.e.toNat, .int .u32 v.f.toNat, .int .u32 v.g.toNat, .int .u32 v.h.toNat]) (.int .i64 1)).run Tryz.prog w = .ok (.int .u32 v.b.toNat) w := fun _ => by kernel_rfl
            go_wp2_with (go_at_call 111; (with_reducible refine (HF4 v.b _).out.mono ?_); rintro e w4 ⟨rfl, hb4⟩; have HB4 := Lib.hid (HB3.out.trans (hb4.mono HB3.out.size)); clear hb4)
            go_roundw
            case rel => exact ⟨2, by omega, rfl, by rw [HNx.out, bcat]; rfl, HB4.out⟩
            case measure => simp [intOf]
          · have q := hl4 v.c.toNat
            have ix : ∀ w, (Instr.index 130 (.agg #[.int .u32 v.a.toNat, .int .u32 v.b.toNat, .int .u32 v.c.toNat, .int .u32 v.d.toNat, .int .u32 v.e.toNat, .int .u32 v.f.toNat, .int .u32 v.g.toNat, .int .u32 v.h.toNat]) (.int .i64 2)).run Tryz.prog w = .ok (.int .u32 v.c.toNat) w := fun _ => by kernel_rfl
            go_wp2_with (go_at_call 111; (with_reducible refine (HF4 v.c _).out.mono ?_); rintro e w4 ⟨rfl, hb4⟩; have HB4 := Lib.hid (HB3.out.trans (hb4.mono HB3.out.size)); clear hb4)
            go_roundw
            case rel => exact ⟨3, by omega, rfl, by rw [HNx.out, bcat]; rfl, HB4.out⟩
            case measure => simp [intOf]
          · have q := hl4 v.d.toNat
            have ix : ∀ w, (Instr.index 130 (.agg #[.int .u32 v.a.toNat, .int .u32 v.b.toNat, .int .u32 v.c.toNat, .int .u32 v.d.toNat, .int .u32 v.e.toNat, .int .u32 v.f.toNat, .int .u32 v.g.toNat, .int .u32 v.h.toNat]) (.int .i64 3)).run Tryz.prog w = .ok (.int .u32 v.d.toNat) w := fun _ => by kernel_rfl
            go_wp2_with (go_at_call 111; (with_reducible refine (HF4 v.d _).out.mono ?_); rintro e w4 ⟨rfl, hb4⟩; have HB4 := Lib.hid (HB3.out.trans (hb4.mono HB3.out.size)); clear hb4)
            go_roundw
            case rel => exact ⟨4, by omega, rfl, by rw [HNx.out, bcat]; rfl, HB4.out⟩
            case measure => simp [intOf]
          · have q := hl4 v.e.toNat
            have ix : ∀ w, (Instr.index 130 (.agg #[.int .u32 v.a.toNat, .int .u32 v.b.toNat, .int .u32 v.c.toNat, .int .u32 v.d.toNat, .int .u32 v.e.toNat, .int .u32 v.f.toNat, .int .u32 v.g.toNat, .int .u32 v.h.toNat]) (.int .i64 4)).run Tryz.prog w = .ok (.int .u32 v.e.toNat) w := fun _ => by kernel_rfl
            go_wp2_with (go_at_call 111; (with_reducible refine (HF4 v.e _).out.mono ?_); rintro e w4 ⟨rfl, hb4⟩; have HB4 := Lib.hid (HB3.out.trans (hb4.mono HB3.out.size)); clear hb4)
            go_roundw
            case rel => exact ⟨5, by omega, rfl, by rw [HNx.out, bcat]; rfl, HB4.out⟩
            case measure => simp [intOf]
          · have q := hl4 v.f.toNat
            have ix : ∀ w, (Instr.index 130 (.agg #[.int .u32 v.a.toNat, .int .u32 v.b.toNat, .int .u32 v.c.toNat, .int .u32 v.d.toNat, .int .u32 v.e.toNat, .int .u32 v.f.toNat, .int .u32 v.g.toNat, .int .u32 v.h.toNat]) (.int .i64 5)).run Tryz.prog w = .ok (.int .u32 v.f.toNat) w := fun _ => by kernel_rfl
            go_wp2_with (go_at_call 111; (with_reducible refine (HF4 v.f _).out.mono ?_); rintro e w4 ⟨rfl, hb4⟩; have HB4 := Lib.hid (HB3.out.trans (hb4.mono HB3.out.size)); clear hb4)
            go_roundw
            case rel => exact ⟨6, by omega, rfl, by rw [HNx.out, bcat]; rfl, HB4.out⟩
            case measure => simp [intOf]
          · have q := hl4 v.g.toNat
            have ix : ∀ w, (Instr.index 130 (.agg #[.int .u32 v.a.toNat, .int .u32 v.b.toNat, .int .u32 v.c.toNat, .int .u32 v.d.toNat, .int .u32 v.e.toNat, .int .u32 v.f.toNat, .int .u32 v.g.toNat, .int .u32 v.h.toNat]) (.int .i64 6)).run Tryz.prog w = .ok (.int .u32 v.g.toNat) w := fun _ => by kernel_rfl
            go_wp2_with (go_at_call 111; (with_reducible refine (HF4 v.g _).out.mono ?_); rintro e w4 ⟨rfl, hb4⟩; have HB4 := Lib.hid (HB3.out.trans (hb4.mono HB3.out.size)); clear hb4)
            go_roundw
            case rel => exact ⟨7, by omega, rfl, by rw [HNx.out, bcat]; rfl, HB4.out⟩
            case measure => simp [intOf]
          · have q := hl4 v.h.toNat
            have ix : ∀ w, (Instr.index 130 (.agg #[.int .u32 v.a.toNat, .int .u32 v.b.toNat, .int .u32 v.c.toNat, .int .u32 v.d.toNat, .int .u32 v.e.toNat, .int .u32 v.f.toNat, .int .u32 v.g.toNat, .int .u32 v.h.toNat]) (.int .i64 7)).run Tryz.prog w = .ok (.int .u32 v.h.toNat) w := fun _ => by kernel_rfl
            go_wp2_with (go_at_call 111; (with_reducible refine (HF4 v.h _).out.mono ?_); rintro e w4 ⟨rfl, hb4⟩; have HB4 := Lib.hid (HB3.out.trans (hb4.mono HB3.out.size)); clear hb4)
            go_roundw
            case rel => exact ⟨8, by omega, rfl, by rw [HNx.out, bcat]; rfl, HB4.out⟩
            case measure => simp [intOf]
        · obtain rfl : k = 8 := by omega
          go_wp2_with fail
          go_ret
          refine ⟨?_, HB0.out.trans ((HB.out.trans (HB3.out.mono HB.out.size)).mono hz1')⟩
          rw [HRes.out, ← HV.out, ← bytesTo_all]
          rfl
end Go.Proofs.YtelnnegfkdfpiaaGreatDoor
