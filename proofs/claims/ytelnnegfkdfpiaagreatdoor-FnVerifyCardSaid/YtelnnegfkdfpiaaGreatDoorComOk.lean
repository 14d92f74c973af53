/- CommitOk of both sides (written by wip/comok.py). -/
import Derived.Test.YtelnnegfkdfpiaaGreatDoorCom
import Derived.Test.YtelnnegfkdfpiaaGreatDoorPower
import Derived.Test.YtelnnegfkdfpiaaGreatDoorRegS
import Derived.RegionTactic
import Derived.WalkKit
import Derived.WalkSpells
import Derived.WalkLawsBesides
import Derived.Lib.Hide
namespace Go.Proofs.YtelnnegfkdfpiaaGreatDoor
open Go.RowKit

set_option maxRecDepth 100000 in
set_option maxHeartbeats 8000000 in
theorem CommitOk_any (h : HeaderD) (p : ComD) (A : Option Addr) (n c : Nat) (al : List ValD) (B : Option Addr) (m d : Nat) (sg : List CSigD) (w : World) (hl : RdL valC 2 w w.heap.size A n c al) (hs : RdL csigC 2 w w.heap.size B m d sg) (ht : Tab w) :
    Calls Tryz.prog 74 #[.slice A n c, .agg #[.int .i64 h.h, .int .i64 h.t, .string h.last, .string h.vals, .string h.next, .string h.data], .agg #[.int .i64 p.h, .int .i64 p.r, .string p.id, .slice B m d]] w fun e w' => e = .returned (.bool (comB al h p sg)) ∧ Below w.heap.size w w' := by
  have HL := Lib.hid hl
  have HS := Lib.hid hs
  clear hl hs
  have HT := Lib.hid ht
  have htp := ht.pos
  clear ht
  have HVO : ∀ wx : World, RdL valC 2 wx wx.heap.size A n c al → Hid (Calls Tryz.prog 92 #[.slice A n c] wx fun e w' => e = .returned (.bool (valsB al)) ∧ Below wx.heap.size wx w') := fun wx h => ValsOk_any A n c al wx h
  have HHD : ∀ wx : World, Hid (Calls Tryz.prog 69 #[.agg #[.int .i64 h.h, .int .i64 h.t, .string h.last, .string h.vals, .string h.next, .string h.data]] wx fun e w' => e = .returned (.bool (hdrB h)) ∧ Below wx.heap.size wx w') := fun wx => HeaderOk_any h wx
  have HHI : ∀ wx : World, Tab wx → Hid (Calls Tryz.prog 72 #[.agg #[.int .i64 h.h, .int .i64 h.t, .string h.last, .string h.vals, .string h.next, .string h.data]] wx fun e w' => e = .returned (.string (headIdB h)) ∧ Below wx.heap.size wx w') := fun wx hx => HeadId_any h wx hx
  have HVH : ∀ wx : World, RdL valC 2 wx wx.heap.size A n c al → Tab wx → Hid (Calls Tryz.prog 73 #[.slice A n c] wx fun e w' => e = .returned (.string (valsHashB al)) ∧ Below wx.heap.size wx w') := fun wx h hx => ValsHash_any A n c al wx h hx
  have HE : Hid (comB al h p sg = (valsB al && (hdrB h && (p.h == h.h && (p.id.toList == (headIdB h).toList && ((valsHashB al).toList == h.vals.toList && enoughB al (cvL p sg))))))) := rfl
  generalize comB al h p sg = res at *
  generalize hidq : headIdB h = hid at *
  generalize hvhq : valsHashB al = vh at *
  clear hidq hvhq
  generalize enq : enoughB al (cvL p sg) = en at *
  have HEN := Lib.hid enq
  clear enq
  generalize valsB al = b1 at *
  generalize hdrB h = b2 at *
  go_enter Tryz.func74, Tryz.ntmps74
  go_upto_region 1 with fail
  obtain ⟨wb, hwb⟩ : ∃ q, q = (w.alloc (.cells #[.int .i64 h.h, .int .i64 h.t, .string h.last, .string h.vals, .string h.next, .string h.data] 27)).alloc (.cells #[.int .i64 p.h, .int .i64 p.r, .string p.id, .slice B m d] 33) := ⟨_, rfl⟩
  rw [← hwb]
  have hbh : Blk wb w.heap.size 27 #[.int .i64 h.h, .int .i64 h.t, .string h.last, .string h.vals, .string h.next, .string h.data] := by rw [hwb]; exact Blk.alloc (heap_alloc_new w _) _
  have hbc : Blk wb (w.heap.size + 1) 33 #[.int .i64 p.h, .int .i64 p.r, .string p.id, .slice B m d] := by rw [hwb]; have h := heap_alloc_new (w.alloc (.cells #[.int .i64 h.h, .int .i64 h.t, .string h.last, .string h.vals, .string h.next, .string h.data] 27)) (.cells #[.int .i64 p.h, .int .i64 p.r, .string p.id, .slice B m d] 33); rw [World.size_alloc] at h; exact h
  have HB0 : Hid (Below w.heap.size w wb) := by show Below _ _ _; rw [hwb]; exact ((Below.refl _ _).alloc (Nat.le_refl _) _).alloc (by simp) _
  clear hwb
  have hz := hbh.lt
  have hz1 := hbc.lt
  have t0 := hbh.cell 0
  have t1 := hbh.cell 1
  have t2 := hbh.cell 2
  have t3 := hbh.cell 3
  have t4 := hbh.cell 4
  have t5 := hbh.cell 5
  have s0 := hbc.cell 0
  have s1 := hbc.cell 1
  have s2 := hbc.cell 2
  have s3 := hbc.cell 3
  clear hbh hbc
  have HRB := Lib.hid ((HL.out.below HB0.out (Nat.le_refl _)).more HB0.out.size)
  have HSB := Lib.hid ((HS.out.below HB0.out (Nat.le_refl _)).more HB0.out.size)
  cases b1
  · refine wp_region_below (by kernel_rfl) (by kernel_rfl) ?_
    repeat (first | go_big_quiet_skip | (go_big_quiet_want; go_big_quiet_op; first | go_big_quiet_on | (apply Exists.intro; refine ⟨fun w1 hC => ?_, ?_⟩; (focus (first | rfl | (go_at_call 92; exact quiet_below hC ((HVO _ (by exact (HRB.out.below hC (Nat.le_refl _)).more hC.size)).out)) | (go_at_call 69; exact quiet_below hC ((HHD _).out)) | (go_at_call 72; exact quiet_below hC ((HHI _ (by exact (HT.out.below HB0.out htp).below hC (by omega))).out)) | (go_at_call 73; exact quiet_below hC ((HVH _ (by exact (HRB.out.below hC (Nat.le_refl _)).more hC.size) (by exact (HT.out.below HB0.out htp).below hC (by omega))).out)) | (simp [(bcell hC).1, hz, hz1, t0, t1, t2, t3, t4, t5, s0, s1, s2, s3]; done) | (simp [(bcell hC).1, hz, hz1, t0, t1, t2, t3, t4, t5, s0, s1, s2, s3]; rfl))); go_big_quiet_on)))
    refine wpQuiet_nil ?_
    intro w2 hb2
    obtain ⟨hc2, hf2, hz2⟩ := bcell hb2
    go_wp2_with fail
    go_ret
    exact ⟨by rw [HE.out]; rfl, HB0.out.trans (hb2.mono HB0.out.size)⟩
  cases b2
  · refine wp_region_below (by kernel_rfl) (by kernel_rfl) ?_
    repeat (first | go_big_quiet_skip | (go_big_quiet_want; go_big_quiet_op; first | go_big_quiet_on | (apply Exists.intro; refine ⟨fun w1 hC => ?_, ?_⟩; (focus (first | rfl | (go_at_call 92; exact quiet_below hC ((HVO _ (by exact (HRB.out.below hC (Nat.le_refl _)).more hC.size)).out)) | (go_at_call 69; exact quiet_below hC ((HHD _).out)) | (go_at_call 72; exact quiet_below hC ((HHI _ (by exact (HT.out.below HB0.out htp).below hC (by omega))).out)) | (go_at_call 73; exact quiet_below hC ((HVH _ (by exact (HRB.out.below hC (Nat.le_refl _)).more hC.size) (by exact (HT.out.below HB0.out htp).below hC (by omega))).out)) | (simp [(bcell hC).1, hz, t0, t1, t2, t3, t4, t5]; done) | (simp [(bcell hC).1, hz, t0, t1, t2, t3, t4, t5]; rfl))); go_big_quiet_on)))
    refine wpQuiet_nil ?_
    intro w2 hb2
    obtain ⟨hc2, hf2, hz2⟩ := bcell hb2
    go_wp2_with fail
    go_ret
    exact ⟨by rw [HE.out]; rfl, HB0.out.trans (hb2.mono HB0.out.size)⟩
  cases g3 : (p.h == h.h)
  · refine wp_region_below (by kernel_rfl) (by kernel_rfl) ?_
    repeat (first | go_big_quiet_skip | (go_big_quiet_want; go_big_quiet_op; first | go_big_quiet_on | (apply Exists.intro; refine ⟨fun w1 hC => ?_, ?_⟩; (focus (first | rfl | (go_at_call 92; exact quiet_below hC ((HVO _ (by exact (HRB.out.below hC (Nat.le_refl _)).more hC.size)).out)) | (go_at_call 69; exact quiet_below hC ((HHD _).out)) | (go_at_call 72; exact quiet_below hC ((HHI _ (by exact (HT.out.below HB0.out htp).below hC (by omega))).out)) | (go_at_call 73; exact quiet_below hC ((HVH _ (by exact (HRB.out.below hC (Nat.le_refl _)).more hC.size) (by exact (HT.out.below HB0.out htp).below hC (by omega))).out)) | (simp [(bcell hC).1, hz, hz1, t0, t1, t2, t3, t4, t5, s0]; done) | (simp [(bcell hC).1, hz, hz1, t0, t1, t2, t3, t4, t5, s0]; rfl))); go_big_quiet_on)))
    refine wpQuiet_nil ?_
    intro w2 hb2
    obtain ⟨hc2, hf2, hz2⟩ := bcell hb2
    go_wp2_with fail
    go_ret
    exact ⟨by rw [HE.out]; simp [g3], HB0.out.trans (hb2.mono HB0.out.size)⟩
  cases g4 : (p.id.toList == hid.toList)
  · refine wp_region_below (by kernel_rfl) (by kernel_rfl) ?_
    repeat (first | go_big_quiet_skip | (go_big_quiet_want; go_big_quiet_op; first | go_big_quiet_on | (apply Exists.intro; refine ⟨fun w1 hC => ?_, ?_⟩; (focus (first | rfl | (go_at_call 92; exact quiet_below hC ((HVO _ (by exact (HRB.out.below hC (Nat.le_refl _)).more hC.size)).out)) | (go_at_call 69; exact quiet_below hC ((HHD _).out)) | (go_at_call 72; exact quiet_below hC ((HHI _ (by exact (HT.out.below HB0.out htp).below hC (by omega))).out)) | (go_at_call 73; exact quiet_below hC ((HVH _ (by exact (HRB.out.below hC (Nat.le_refl _)).more hC.size) (by exact (HT.out.below HB0.out htp).below hC (by omega))).out)) | (simp [(bcell hC).1, hz, hz1, t0, t1, t2, t3, t4, t5, s0, s2]; done) | (simp [(bcell hC).1, hz, hz1, t0, t1, t2, t3, t4, t5, s0, s2]; rfl))); go_big_quiet_on)))
    refine wpQuiet_nil ?_
    intro w2 hb2
    obtain ⟨hc2, hf2, hz2⟩ := bcell hb2
    go_wp2_with fail
    go_ret
    exact ⟨by rw [HE.out]; simp [g3, g4], HB0.out.trans (hb2.mono HB0.out.size)⟩
  cases g5 : (vh.toList == h.vals.toList)
  · refine wp_region_below (by kernel_rfl) (by kernel_rfl) ?_
    repeat (first | go_big_quiet_skip | (go_big_quiet_want; go_big_quiet_op; first | go_big_quiet_on | (apply Exists.intro; refine ⟨fun w1 hC => ?_, ?_⟩; (focus (first | rfl | (go_at_call 92; exact quiet_below hC ((HVO _ (by exact (HRB.out.below hC (Nat.le_refl _)).more hC.size)).out)) | (go_at_call 69; exact quiet_below hC ((HHD _).out)) | (go_at_call 72; exact quiet_below hC ((HHI _ (by exact (HT.out.below HB0.out htp).below hC (by omega))).out)) | (go_at_call 73; exact quiet_below hC ((HVH _ (by exact (HRB.out.below hC (Nat.le_refl _)).more hC.size) (by exact (HT.out.below HB0.out htp).below hC (by omega))).out)) | (simp [(bcell hC).1, hz, hz1, t0, t1, t2, t3, t4, t5, s0, s2]; done) | (simp [(bcell hC).1, hz, hz1, t0, t1, t2, t3, t4, t5, s0, s2]; rfl))); go_big_quiet_on)))
    refine wpQuiet_nil ?_
    intro w2 hb2
    obtain ⟨hc2, hf2, hz2⟩ := bcell hb2
    go_wp2_with fail
    go_ret
    exact ⟨by rw [HE.out]; simp [g3, g4, g5], HB0.out.trans (hb2.mono HB0.out.size)⟩
  have HR : Hid (res = en) := by show _ = _; rw [HE.out, g3, g4, g5]; rfl
  refine wp_region_split 28 (Below wb.heap.size wb) (by kernel_rfl) (by decide) (by kernel_rfl) (by kernel_rfl) (Below.refl _ _).drew ?_
  simp only [List.take_succ_cons, List.take_zero]
  repeat (first | go_big_quiet_skip | (go_big_quiet_want; go_big_quiet_op; first | go_big_quiet_on | (apply Exists.intro; refine ⟨fun w1 hC => ?_, ?_⟩; (focus (first | rfl | (go_at_call 92; exact quiet_below hC ((HVO _ (by exact (HRB.out.below hC (Nat.le_refl _)).more hC.size)).out)) | (go_at_call 69; exact quiet_below hC ((HHD _).out)) | (go_at_call 72; exact quiet_below hC ((HHI _ (by exact (HT.out.below HB0.out htp).below hC (by omega))).out)) | (go_at_call 73; exact quiet_below hC ((HVH _ (by exact (HRB.out.below hC (Nat.le_refl _)).more hC.size) (by exact (HT.out.below HB0.out htp).below hC (by omega))).out)) | (simp [(bcell hC).1, hz, hz1, t0, t1, t2, t3, t4, t5, s0, s2]; done) | (simp [(bcell hC).1, hz, hz1, t0, t1, t2, t3, t4, t5, s0, s2]; rfl))); go_big_quiet_on)))
  refine wpQuiet_nil ?_
  intro w2 hb2
  obtain ⟨hc2, hf2, _⟩ := bcell hb2
  have r0 := (hb2.cell (p := ⟨w.heap.size + 1, 0, none⟩) hz1).trans s0
  have r1 := (hb2.cell (p := ⟨w.heap.size + 1, 1, none⟩) hz1).trans s1
  have r2 := (hb2.cell (p := ⟨w.heap.size + 1, 2, none⟩) hz1).trans s2
  have r3 := (hb2.cell (p := ⟨w.heap.size + 1, 3, none⟩) hz1).trans s3
  have hz2 := hb2.size
  have hz3 : w.heap.size + 1 < w2.heap.size := by omega
  have HW2 := Lib.hid hb2
  clear hb2 hc2 hf2
  show wpAny _ _ _ _ 6 _ _ _
  refine wpAny_take (i := 28) (v := ?_) rfl (by kernel_rfl) (by kernel_rfl) (by kernel_rfl) (fun _ _ _ h => h) (Or.inl ⟨by rfl, ?_⟩) ?_
  rotate_left
  · intro wt
    go_simp
    try with_reducible rfl
  try show wpAny _ _ _ _ _ _ _ _
  refine wpAny_ready (rs := [29]) (by kernel_rfl) (by simp) ?_
  refine AllReady.cons rfl (fun K hK => ?_) AllReady.nil
  go_simp
  refine hK _ _ ?_
  clear hK K
  refine wpAny_ready (rs := [30]) (by kernel_rfl) (by simp) ?_
  refine AllReady.cons rfl (fun K hK => ?_) AllReady.nil
  go_simp
  refine (CommitVals_any p B m d sg _ ((HSB.out.below HW2.out (Nat.le_refl _)).more hz2) ((HT.out.below HB0.out htp).below HW2.out (by omega))).mono ?_
  rintro e w3 ⟨A3, c3, rfl, hr3, hb3⟩
  have HR3 := Lib.hid hr3
  have HW3 := Lib.hid (HW2.out.trans (hb3.mono hz2))
  have hz4 := HW3.out.size
  clear hr3 hb3 r0 r1 r2 r3
  refine hK _ _ ?_
  clear hK K
  refine wpAny_ready (rs := [31]) (by kernel_rfl) (by simp) ?_
  refine AllReady.cons rfl (fun K hK => ?_) AllReady.nil
  go_simp
  refine (Enough_any A n c al A3 _ c3 (cvL p sg) _ ((HRB.out.below HW3.out (Nat.le_refl _)).more hz4) HR3.out).mono ?_
  rintro e w4 ⟨rfl, hb4⟩
  rw [HEN.out]
  refine hK _ _ ?_
  clear hK K
  refine wpAny_ready (rs := [32]) (by kernel_rfl) (by simp) ?_
  refine AllReady.cons rfl (fun K hK => ?_) AllReady.nil
  go_simp
  refine hK _ _ ?_
  clear hK K
  refine wpAny_ready (rs := [33]) (by kernel_rfl) (by simp) ?_
  refine AllReady.cons rfl (fun K hK => ?_) AllReady.nil
  go_simp
  refine hK _ _ ?_
  clear hK K
  refine wpAny_done (by kernel_rfl) ?_ _
  go_wp2_with fail
  go_ret
  exact ⟨by rw [HR.out]; rfl, HB0.out.trans ((HW3.out.trans (hb4.mono hz4)).mono HB0.out.size)⟩
set_option maxRecDepth 100000 in
set_option maxHeartbeats 8000000 in
theorem sCommitOk_any (h : HeaderD) (p : ComD) (A : Option Addr) (n c : Nat) (al : List ValD) (B : Option Addr) (m d : Nat) (sg : List CSigD) (w : World) (hl : RdL valC 2 w w.heap.size A n c al) (hs : RdL csigC 2 w w.heap.size B m d sg) :
    Calls Tryz.prog 76 #[.slice A n c, .agg #[.int .i64 h.h, .int .i64 h.t, .string h.last, .string h.vals, .string h.next, .string h.data], .agg #[.int .i64 p.h, .int .i64 p.r, .string p.id, .slice B m d]] w fun e w' => e = .returned (.bool (comB al h p sg)) ∧ Below w.heap.size w w' := by
  have HL := Lib.hid hl
  have HS := Lib.hid hs
  clear hl hs
  have HVO : ∀ wx : World, RdL valC 2 wx wx.heap.size A n c al → Hid (Calls Tryz.prog 46 #[.slice A n c] wx fun e w' => e = .returned (.bool (valsB al)) ∧ Below wx.heap.size wx w') := fun wx h => sValsOk_any A n c al wx h
  have HHD : ∀ wx : World, Hid (Calls Tryz.prog 42 #[.agg #[.int .i64 h.h, .int .i64 h.t, .string h.last, .string h.vals, .string h.next, .string h.data]] wx fun e w' => e = .returned (.bool (hdrB h)) ∧ Below wx.heap.size wx w') := fun wx => sHeaderOk_any h wx
  have HHI : ∀ wx : World, Hid (Calls Tryz.prog 11 #[.agg #[.int .i64 h.h, .int .i64 h.t, .string h.last, .string h.vals, .string h.next, .string h.data]] wx fun e w' => e = .returned (.string (headIdB h)) ∧ Below wx.heap.size wx w') := fun wx => sHeadId_any h wx
  have HVH : ∀ wx : World, RdL valC 2 wx wx.heap.size A n c al → Hid (Calls Tryz.prog 47 #[.slice A n c] wx fun e w' => e = .returned (.string (valsHashB al)) ∧ Below wx.heap.size wx w') := fun wx h => sValsHash_any A n c al wx h
  have HE : Hid (comB al h p sg = (valsB al && (hdrB h && (p.h == h.h && (p.id.toList == (headIdB h).toList && ((valsHashB al).toList == h.vals.toList && enoughB al (cvL p sg))))))) := rfl
  generalize comB al h p sg = res at *
  generalize hidq : headIdB h = hid at *
  generalize hvhq : valsHashB al = vh at *
  clear hidq hvhq
  generalize enq : enoughB al (cvL p sg) = en at *
  have HEN := Lib.hid enq
  clear enq
  generalize valsB al = b1 at *
  generalize hdrB h = b2 at *
  go_enter Tryz.func76, Tryz.ntmps76
  go_upto_region 1 with fail
  obtain ⟨wb, hwb⟩ : ∃ q, q = (w.alloc (.cells #[.int .i64 h.h, .int .i64 h.t, .string h.last, .string h.vals, .string h.next, .string h.data] 27)).alloc (.cells #[.int .i64 p.h, .int .i64 p.r, .string p.id, .slice B m d] 33) := ⟨_, rfl⟩
  rw [← hwb]
  have hbh : Blk wb w.heap.size 27 #[.int .i64 h.h, .int .i64 h.t, .string h.last, .string h.vals, .string h.next, .string h.data] := by rw [hwb]; exact Blk.alloc (heap_alloc_new w _) _
  have hbc : Blk wb (w.heap.size + 1) 33 #[.int .i64 p.h, .int .i64 p.r, .string p.id, .slice B m d] := by rw [hwb]; have h := heap_alloc_new (w.alloc (.cells #[.int .i64 h.h, .int .i64 h.t, .string h.last, .string h.vals, .string h.next, .string h.data] 27)) (.cells #[.int .i64 p.h, .int .i64 p.r, .string p.id, .slice B m d] 33); rw [World.size_alloc] at h; exact h
  have HB0 : Hid (Below w.heap.size w wb) := by show Below _ _ _; rw [hwb]; exact ((Below.refl _ _).alloc (Nat.le_refl _) _).alloc (by simp) _
  clear hwb
  have hz := hbh.lt
  have hz1 := hbc.lt
  have t0 := hbh.cell 0
  have t1 := hbh.cell 1
  have t2 := hbh.cell 2
  have t3 := hbh.cell 3
  have t4 := hbh.cell 4
  have t5 := hbh.cell 5
  have s0 := hbc.cell 0
  have s1 := hbc.cell 1
  have s2 := hbc.cell 2
  have s3 := hbc.cell 3
  clear hbh hbc
  have HRB := Lib.hid ((HL.out.below HB0.out (Nat.le_refl _)).more HB0.out.size)
  have HSB := Lib.hid ((HS.out.below HB0.out (Nat.le_refl _)).more HB0.out.size)
  cases b1
  · refine wp_region_below (by kernel_rfl) (by kernel_rfl) ?_
    repeat (first | go_big_quiet_skip | (go_big_quiet_want; go_big_quiet_op; first | go_big_quiet_on | (apply Exists.intro; refine ⟨fun w1 hC => ?_, ?_⟩; (focus (first | rfl | (go_at_call 46; exact quiet_below hC ((HVO _ (by exact (HRB.out.below hC (Nat.le_refl _)).more hC.size)).out)) | (go_at_call 42; exact quiet_below hC ((HHD _).out)) | (go_at_call 11; exact quiet_below hC ((HHI _).out)) | (go_at_call 47; exact quiet_below hC ((HVH _ (by exact (HRB.out.below hC (Nat.le_refl _)).more hC.size)).out)) | (simp [(bcell hC).1, hz, hz1, t0, t1, t2, t3, t4, t5, s0, s1, s2, s3]; done) | (simp [(bcell hC).1, hz, hz1, t0, t1, t2, t3, t4, t5, s0, s1, s2, s3]; rfl))); go_big_quiet_on)))
    refine wpQuiet_nil ?_
    intro w2 hb2
    obtain ⟨hc2, hf2, hz2⟩ := bcell hb2
    go_wp2_with fail
    go_ret
    exact ⟨by rw [HE.out]; rfl, HB0.out.trans (hb2.mono HB0.out.size)⟩
  cases b2
  · refine wp_region_below (by kernel_rfl) (by kernel_rfl) ?_
    repeat (first | go_big_quiet_skip | (go_big_quiet_want; go_big_quiet_op; first | go_big_quiet_on | (apply Exists.intro; refine ⟨fun w1 hC => ?_, ?_⟩; (focus (first | rfl | (go_at_call 46; exact quiet_below hC ((HVO _ (by exact (HRB.out.below hC (Nat.le_refl _)).more hC.size)).out)) | (go_at_call 42; exact quiet_below hC ((HHD _).out)) | (go_at_call 11; exact quiet_below hC ((HHI _).out)) | (go_at_call 47; exact quiet_below hC ((HVH _ (by exact (HRB.out.below hC (Nat.le_refl _)).more hC.size)).out)) | (simp [(bcell hC).1, hz, t0, t1, t2, t3, t4, t5]; done) | (simp [(bcell hC).1, hz, t0, t1, t2, t3, t4, t5]; rfl))); go_big_quiet_on)))
    refine wpQuiet_nil ?_
    intro w2 hb2
    obtain ⟨hc2, hf2, hz2⟩ := bcell hb2
    go_wp2_with fail
    go_ret
    exact ⟨by rw [HE.out]; rfl, HB0.out.trans (hb2.mono HB0.out.size)⟩
  cases g3 : (p.h == h.h)
  · refine wp_region_below (by kernel_rfl) (by kernel_rfl) ?_
    repeat (first | go_big_quiet_skip | (go_big_quiet_want; go_big_quiet_op; first | go_big_quiet_on | (apply Exists.intro; refine ⟨fun w1 hC => ?_, ?_⟩; (focus (first | rfl | (go_at_call 46; exact quiet_below hC ((HVO _ (by exact (HRB.out.below hC (Nat.le_refl _)).more hC.size)).out)) | (go_at_call 42; exact quiet_below hC ((HHD _).out)) | (go_at_call 11; exact quiet_below hC ((HHI _).out)) | (go_at_call 47; exact quiet_below hC ((HVH _ (by exact (HRB.out.below hC (Nat.le_refl _)).more hC.size)).out)) | (simp [(bcell hC).1, hz, hz1, t0, t1, t2, t3, t4, t5, s0]; done) | (simp [(bcell hC).1, hz, hz1, t0, t1, t2, t3, t4, t5, s0]; rfl))); go_big_quiet_on)))
    refine wpQuiet_nil ?_
    intro w2 hb2
    obtain ⟨hc2, hf2, hz2⟩ := bcell hb2
    go_wp2_with fail
    go_ret
    exact ⟨by rw [HE.out]; simp [g3], HB0.out.trans (hb2.mono HB0.out.size)⟩
  cases g4 : (p.id.toList == hid.toList)
  · refine wp_region_below (by kernel_rfl) (by kernel_rfl) ?_
    repeat (first | go_big_quiet_skip | (go_big_quiet_want; go_big_quiet_op; first | go_big_quiet_on | (apply Exists.intro; refine ⟨fun w1 hC => ?_, ?_⟩; (focus (first | rfl | (go_at_call 46; exact quiet_below hC ((HVO _ (by exact (HRB.out.below hC (Nat.le_refl _)).more hC.size)).out)) | (go_at_call 42; exact quiet_below hC ((HHD _).out)) | (go_at_call 11; exact quiet_below hC ((HHI _).out)) | (go_at_call 47; exact quiet_below hC ((HVH _ (by exact (HRB.out.below hC (Nat.le_refl _)).more hC.size)).out)) | (simp [(bcell hC).1, hz, hz1, t0, t1, t2, t3, t4, t5, s0, s2]; done) | (simp [(bcell hC).1, hz, hz1, t0, t1, t2, t3, t4, t5, s0, s2]; rfl))); go_big_quiet_on)))
    refine wpQuiet_nil ?_
    intro w2 hb2
    obtain ⟨hc2, hf2, hz2⟩ := bcell hb2
    go_wp2_with fail
    go_ret
    exact ⟨by rw [HE.out]; simp [g3, g4], HB0.out.trans (hb2.mono HB0.out.size)⟩
  cases g5 : (vh.toList == h.vals.toList)
  · refine wp_region_below (by kernel_rfl) (by kernel_rfl) ?_
    repeat (first | go_big_quiet_skip | (go_big_quiet_want; go_big_quiet_op; first | go_big_quiet_on | (apply Exists.intro; refine ⟨fun w1 hC => ?_, ?_⟩; (focus (first | rfl | (go_at_call 46; exact quiet_below hC ((HVO _ (by exact (HRB.out.below hC (Nat.le_refl _)).more hC.size)).out)) | (go_at_call 42; exact quiet_below hC ((HHD _).out)) | (go_at_call 11; exact quiet_below hC ((HHI _).out)) | (go_at_call 47; exact quiet_below hC ((HVH _ (by exact (HRB.out.below hC (Nat.le_refl _)).more hC.size)).out)) | (simp [(bcell hC).1, hz, hz1, t0, t1, t2, t3, t4, t5, s0, s2]; done) | (simp [(bcell hC).1, hz, hz1, t0, t1, t2, t3, t4, t5, s0, s2]; rfl))); go_big_quiet_on)))
    refine wpQuiet_nil ?_
    intro w2 hb2
    obtain ⟨hc2, hf2, hz2⟩ := bcell hb2
    go_wp2_with fail
    go_ret
    exact ⟨by rw [HE.out]; simp [g3, g4, g5], HB0.out.trans (hb2.mono HB0.out.size)⟩
  have HR : Hid (res = en) := by show _ = _; rw [HE.out, g3, g4, g5]; rfl
  refine wp_region_split 28 (Below wb.heap.size wb) (by kernel_rfl) (by decide) (by kernel_rfl) (by kernel_rfl) (Below.refl _ _).drew ?_
  simp only [List.take_succ_cons, List.take_zero]
  repeat (first | go_big_quiet_skip | (go_big_quiet_want; go_big_quiet_op; first | go_big_quiet_on | (apply Exists.intro; refine ⟨fun w1 hC => ?_, ?_⟩; (focus (first | rfl | (go_at_call 46; exact quiet_below hC ((HVO _ (by exact (HRB.out.below hC (Nat.le_refl _)).more hC.size)).out)) | (go_at_call 42; exact quiet_below hC ((HHD _).out)) | (go_at_call 11; exact quiet_below hC ((HHI _).out)) | (go_at_call 47; exact quiet_below hC ((HVH _ (by exact (HRB.out.below hC (Nat.le_refl _)).more hC.size)).out)) | (simp [(bcell hC).1, hz, hz1, t0, t1, t2, t3, t4, t5, s0, s2]; done) | (simp [(bcell hC).1, hz, hz1, t0, t1, t2, t3, t4, t5, s0, s2]; rfl))); go_big_quiet_on)))
  refine wpQuiet_nil ?_
  intro w2 hb2
  obtain ⟨hc2, hf2, _⟩ := bcell hb2
  have r0 := (hb2.cell (p := ⟨w.heap.size + 1, 0, none⟩) hz1).trans s0
  have r1 := (hb2.cell (p := ⟨w.heap.size + 1, 1, none⟩) hz1).trans s1
  have r2 := (hb2.cell (p := ⟨w.heap.size + 1, 2, none⟩) hz1).trans s2
  have r3 := (hb2.cell (p := ⟨w.heap.size + 1, 3, none⟩) hz1).trans s3
  have hz2 := hb2.size
  have hz3 : w.heap.size + 1 < w2.heap.size := by omega
  have HW2 := Lib.hid hb2
  clear hb2 hc2 hf2
  show wpAny _ _ _ _ 6 _ _ _
  refine wpAny_take (i := 28) (v := ?_) rfl (by kernel_rfl) (by kernel_rfl) (by kernel_rfl) (fun _ _ _ h => h) (Or.inl ⟨by rfl, ?_⟩) ?_
  rotate_left
  · intro wt
    go_simp
    try with_reducible rfl
  try show wpAny _ _ _ _ _ _ _ _
  refine wpAny_ready (rs := [29]) (by kernel_rfl) (by simp) ?_
  refine AllReady.cons rfl (fun K hK => ?_) AllReady.nil
  go_simp
  refine hK _ _ ?_
  clear hK K
  refine wpAny_ready (rs := [30]) (by kernel_rfl) (by simp) ?_
  refine AllReady.cons rfl (fun K hK => ?_) AllReady.nil
  go_simp
  refine (sCommitVals_any p B m d sg _ ((HSB.out.below HW2.out (Nat.le_refl _)).more hz2)).mono ?_
  rintro e w3 ⟨A3, c3, rfl, hr3, hb3⟩
  have HR3 := Lib.hid hr3
  have HW3 := Lib.hid (HW2.out.trans (hb3.mono hz2))
  have hz4 := HW3.out.size
  clear hr3 hb3 r0 r1 r2 r3
  refine hK _ _ ?_
  clear hK K
  refine wpAny_ready (rs := [31]) (by kernel_rfl) (by simp) ?_
  refine AllReady.cons rfl (fun K hK => ?_) AllReady.nil
  go_simp
  refine (sEnough_any A n c al A3 _ c3 (cvL p sg) _ ((HRB.out.below HW3.out (Nat.le_refl _)).more hz4) HR3.out).mono ?_
  rintro e w4 ⟨rfl, hb4⟩
  rw [HEN.out]
  refine hK _ _ ?_
  clear hK K
  refine wpAny_ready (rs := [32]) (by kernel_rfl) (by simp) ?_
  refine AllReady.cons rfl (fun K hK => ?_) AllReady.nil
  go_simp
  refine hK _ _ ?_
  clear hK K
  refine wpAny_ready (rs := [33]) (by kernel_rfl) (by simp) ?_
  refine AllReady.cons rfl (fun K hK => ?_) AllReady.nil
  go_simp
  refine hK _ _ ?_
  clear hK K
  refine wpAny_done (by kernel_rfl) ?_ _
  go_wp2_with fail
  go_ret
  exact ⟨by rw [HR.out]; rfl, HB0.out.trans ((HW3.out.trans (hb4.mono hz4)).mono HB0.out.size)⟩
end Go.Proofs.YtelnnegfkdfpiaaGreatDoor
