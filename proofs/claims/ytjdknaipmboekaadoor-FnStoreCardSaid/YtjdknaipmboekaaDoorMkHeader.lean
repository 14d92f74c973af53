/- Marks in slices of Header, and their sizes (written by wip/mk.py). -/
import Derived.Test.YtjdknaipmboekaaDoorFamHeader
import Derived.Test.YtjdknaipmboekaaDoorChg
import Derived.WalkKit
import Derived.WalkSpells
import Derived.WalkLawsBesides
import Derived.Lib.Hide
namespace Go.Proofs.YtjdknaipmboekaaDoor
open Go.RowKit

def markHeader (k : Nat) : HeaderD := ⟨(k : Int), (k : Int) + 1, markT (k + 2), markT (k + 3), markT (k + 4), markT (k + 5)⟩
def marksHeader (k n : Nat) : List HeaderD := (List.range n).map fun i => markHeader (k + i * 6)
theorem marksHeader_len (k n : Nat) : (marksHeader k n).length = n := by simp [marksHeader]
theorem marksHeader_at (k n i : Nat) (h : i < n) : (marksHeader k n)[i]? = some (markHeader (k + i * 6)) := by simp [marksHeader, h]

set_option maxHeartbeats 2000000 in
theorem markHeaderS_any (T : TypeId) (A : Option Addr) (n c : Nat) (l : List HeaderD) (lo hi k : Nat) (w : World) (hl : OwnL headC 6 T w lo hi A n c l) (hk0 : 0 < k) (hn : n ≤ 2097152) (hk : k ≤ 100000000) :
    Calls Tryd.prog 47 #[.slice A n c, .int .i64 k] w (MarkOut headC 6 T lo hi A n c (marksHeader k n) ((k + n * 6 : Nat) : Int) w) := by
  obtain ⟨hll, h0 | ⟨g, cur, rfl, hg1, hg2, hblk, hnc, hcm, hsz, _⟩⟩ := hl
  · obtain ⟨rfl, rfl, rfl⟩ := h0
    go_enter Tryd.func47, Tryd.ntmps47
    go_wp2_with fail
    go_loop [1, 5] (fun kk i => kk = .int .i64 (k : Int) ∧ i = .int .i64 0) (fun _ _ => 0)
    case atStart => exact ⟨rfl, rfl⟩
    case round =>
    obtain ⟨rfl, rfl⟩ := hrel
    go_wp2
    go_ret
    exact ⟨by simp, ⟨by simp [marksHeader], .inl ⟨rfl, rfl, rfl⟩⟩, Chg.refl _ _ _⟩
  · have hn' : n ≤ 9223372036854775807 := by omega
    have H0 : Hid (Laid headC 6 (marksHeader k n) 0 c w g T) := ⟨cur, hblk, hsz, fun j hj => absurd hj (by omega)⟩
    have hgw := hblk.lt
    clear hblk hsz
    go_enter Tryd.func47, Tryd.ntmps47
    go_wp2_with fail
    go_loopw [1, 5] (fun kk i wr => ∃ j : Nat, j ≤ n ∧ i = .int .i64 j ∧ kk = .int .i64 ((k + j * 6 : Nat) : Int) ∧ Chg lo hi w wr ∧ Laid headC 6 (marksHeader k n) j c wr g T) (fun _ i _ => n - (intOf i).toNat)
    case atStart => exact ⟨0, by omega, rfl, by simp, Chg.refl _ _ _, H0.out⟩
    case round =>
      obtain ⟨j, hj, rfl, rfl, hb, cur, h1, h2, h3⟩ := hrel
      have H1 := Lib.hid h1; have H2 := Lib.hid h2; have H3 := Lib.hid h3
      have hgr := h1.lt
      have qf := H1.out.frozen
      clear h1 h2 h3 H0
      generalize hq : k + j * 6 = q
      have HQ := Lib.hid hq
      have hq1 : q ≤ 1000000000 := by omega
      have hq0 : 0 < q := by omega
      clear hq
      by_cases hjn : j < n
      · have hsz : j * 6 + 6 ≤ cur.size := by rw [H2.out]; have := Nat.mul_le_mul_right 6 (show j + 1 ≤ c by omega); omega
        have q0 := H1.out.has (j * 6) (by omega)
        have q1 := H1.out.has (j * 6 + 1) (by omega)
        have q2 := H1.out.has (j * 6 + 2) (by omega)
        have q3 := H1.out.has (j * 6 + 3) (by omega)
        have q4 := H1.out.has (j * 6 + 4) (by omega)
        have q5 := H1.out.has (j * 6 + 5) (by omega)
        go_wp2_with fail
        refine (markText_at _ (q + 2) _ (by omega) (by omega) (by push_cast; omega)).mono ?_
        rintro e v2 ⟨rfl, hb2⟩
        have HV2 := Lib.hid hb2
        obtain ⟨hc2, hf2, hz2⟩ := bcell hb2
        clear hb2
        have gg2 : g < v2.heap.size := by (try simp only [World.size_setCell] at hz2); omega
        go_wp2_with fail
        refine (markText_at _ (q + 3) _ (by omega) (by omega) (by push_cast; omega)).mono ?_
        rintro e v3 ⟨rfl, hb3⟩
        have HV3 := Lib.hid hb3
        obtain ⟨hc3, hf3, hz3⟩ := bcell hb3
        clear hb3
        have gg3 : g < v3.heap.size := by (try simp only [World.size_setCell] at hz3); omega
        go_wp2_with fail
        refine (markText_at _ (q + 4) _ (by omega) (by omega) (by push_cast; omega)).mono ?_
        rintro e v4 ⟨rfl, hb4⟩
        have HV4 := Lib.hid hb4
        obtain ⟨hc4, hf4, hz4⟩ := bcell hb4
        clear hb4
        have gg4 : g < v4.heap.size := by (try simp only [World.size_setCell] at hz4); omega
        go_wp2_with fail
        refine (markText_at _ (q + 5) _ (by omega) (by omega) (by push_cast; omega)).mono ?_
        rintro e v5 ⟨rfl, hb5⟩
        have HV5 := Lib.hid hb5
        obtain ⟨hc5, hf5, hz5⟩ := bcell hb5
        clear hb5
        have gg5 : g < v5.heap.size := by (try simp only [World.size_setCell] at hz5); omega
        go_wp2
        go_roundw
        case rel => exact ⟨j + 1, by omega, by go_num, by rw [show k + (j + 1) * 6 = q + 6 from by have := HQ.out; omega]; go_num, ((((((((((hb.setCell hg1 hg2 _).setCell hg1 hg2 _).below_trans HV2.out).setCell hg1 hg2 _).below_trans HV3.out).setCell hg1 hg2 _).below_trans HV4.out).setCell hg1 hg2 _).below_trans HV5.out).setCell hg1 hg2 _),
          Laid.next headC_len (marksHeader_at k n j hjn) ((((((((((H1.out.set_ _ _).set_ _ _).below HV2.out (by simp; omega)).set_ _ _).below HV3.out (by simp; omega)).set_ _ _).below HV4.out (by simp; omega)).set_ _ _).below HV5.out (by simp; omega)).set_ _ _) (by simpa using H2.out) (fun i hi => by simp [Array.getElem?_setIfInBounds]; rw [if_neg (by omega), if_neg (by omega), if_neg (by omega), if_neg (by omega), if_neg (by omega), if_neg (by omega)]; exact H3.out i hi)
            (fun i hi => by rw [HQ.out]; rcases (by omega : i = 0 ∨ i = 1 ∨ i = 2 ∨ i = 3 ∨ i = 4 ∨ i = 5) with rfl | rfl | rfl | rfl | rfl | rfl <;> simp [Array.getElem?_setIfInBounds, headC, markHeader] <;> omega)⟩
        case measure => simp [intOf]; omega
      · obtain rfl : j = n := by omega
        go_wp2
        go_ret
        exact ⟨by rw [HQ.out]; rfl, ⟨marksHeader_len _ _, .inr ⟨g, cur, rfl, hg1, hg2, H1.out, hnc, hcm, H2.out, H3.out⟩⟩, hb⟩

set_option maxHeartbeats 2000000 in
theorem heldHeaderS_any (A : Option Addr) (n c : Nat) (k : Nat) (w : World) (hl : RdL headC 6 w w.heap.size A n c (marksHeader k n)) (hk0 : 0 < k) (hn : n ≤ 2097152) (hk : k ≤ 100000000) :
    Calls Tryd.prog 48 #[.slice A n c, .int .i64 k] w fun e w' => e = .returned (.int .i64 ((k + n * 6 : Nat) : Int)) ∧ Below w.heap.size w w' := by
  have HL := Lib.hid hl
  clear hl
  go_enter Tryd.func48, Tryd.ntmps48
  go_wp2_with fail
  go_loopw [1, 5] (fun kk i wr => ∃ j : Nat, j ≤ n ∧ i = .int .i64 j ∧ kk = .int .i64 ((k + j * 6 : Nat) : Int) ∧ Below w.heap.size w wr) (fun _ i _ => n - (intOf i).toNat)
  case atStart => exact ⟨0, by omega, rfl, by simp, Below.refl _ _⟩
  case round =>
    obtain ⟨j, hj, rfl, rfl, hb⟩ := hrel
    have hz := hb.size
    generalize hq : k + j * 6 = q
    have HQ := Lib.hid hq
    have hq1 : q ≤ 1000000000 := by omega
    have hq0 : 0 < q := by omega
    clear hq
    by_cases hjn : j < n
    · obtain ⟨b, off, p, rfl, hb1, hp, c0, c1, c2, c3, c4, c5⟩ := head_cells (HL.out.below hb (Nat.le_refl _)) hjn
      rw [marksHeader_at k n j hjn, HQ.out] at hp
      obtain rfl : markHeader q = p := by injection hp
      clear hp
      simp only [markHeader] at c0 c1 c2 c3 c4 c5
      have hbl : b < wr.heap.size := by omega
      go_wp2_with fail
      refine wp_region_below (by kernel_rfl) (by kernel_rfl) ?_
      repeat (first | go_big_quiet_skip | (go_big_quiet_want; go_big_quiet_op; first | go_big_quiet_on | (apply Exists.intro; refine ⟨fun w1 hC => ?_, ?_⟩; (focus (first | rfl | (go_at_call 60; exact quiet_below hC (markText_at _ (q + 2) _ (by omega) (by omega) (by push_cast; omega))) | (simp [(bcell hC).1, hbl, c2]; done) | (simp [(bcell hC).1, hbl, c2]; rfl))); go_big_quiet_on)))
      refine wpQuiet_nil ?_
      intro w2 hb2
      obtain ⟨hc2, hf2, hz2⟩ := bcell hb2
      have HV2 := Lib.hid hb2
      have d3 := (hc2 _ _ hbl).trans c3
      have d4 := (hc2 _ _ hbl).trans c4
      have d5 := (hc2 _ _ hbl).trans c5
      have hbl2 : b < w2.heap.size := by omega
      clear hb2 hc2 hf2
      go_wp2_with fail
      refine wp_region_below (by kernel_rfl) (by kernel_rfl) ?_
      repeat (first | go_big_quiet_skip | (go_big_quiet_want; go_big_quiet_op; first | go_big_quiet_on | (apply Exists.intro; refine ⟨fun w1 hC => ?_, ?_⟩; (focus (first | rfl | (go_at_call 60; exact quiet_below hC (markText_at _ (q + 3) _ (by omega) (by omega) (by push_cast; omega))) | (simp [(bcell hC).1, hbl2, d3]; done) | (simp [(bcell hC).1, hbl2, d3]; rfl))); go_big_quiet_on)))
      refine wpQuiet_nil ?_
      intro w2 hb2
      obtain ⟨hc2, hf2, hz2⟩ := bcell hb2
      have HV3 := Lib.hid hb2
      have e4 := (hc2 _ _ hbl2).trans d4
      have e5 := (hc2 _ _ hbl2).trans d5
      have hbl3 : b < w2.heap.size := by omega
      clear hb2 hc2 hf2
      go_wp2_with fail
      refine wp_region_below (by kernel_rfl) (by kernel_rfl) ?_
      repeat (first | go_big_quiet_skip | (go_big_quiet_want; go_big_quiet_op; first | go_big_quiet_on | (apply Exists.intro; refine ⟨fun w1 hC => ?_, ?_⟩; (focus (first | rfl | (go_at_call 60; exact quiet_below hC (markText_at _ (q + 4) _ (by omega) (by omega) (by push_cast; omega))) | (simp [(bcell hC).1, hbl3, e4]; done) | (simp [(bcell hC).1, hbl3, e4]; rfl))); go_big_quiet_on)))
      refine wpQuiet_nil ?_
      intro w2 hb2
      obtain ⟨hc2, hf2, hz2⟩ := bcell hb2
      have HV4 := Lib.hid hb2
      have f5 := (hc2 _ _ hbl3).trans e5
      have hbl4 : b < w2.heap.size := by omega
      clear hb2 hc2 hf2
      go_wp2_with fail
      refine wp_region_below (by kernel_rfl) (by kernel_rfl) ?_
      repeat (first | go_big_quiet_skip | (go_big_quiet_want; go_big_quiet_op; first | go_big_quiet_on | (apply Exists.intro; refine ⟨fun w1 hC => ?_, ?_⟩; (focus (first | rfl | (go_at_call 60; exact quiet_below hC (markText_at _ (q + 5) _ (by omega) (by omega) (by push_cast; omega))) | (simp [(bcell hC).1, hbl4, f5]; done) | (simp [(bcell hC).1, hbl4, f5]; rfl))); go_big_quiet_on)))
      refine wpQuiet_nil ?_
      intro w2 hb2
      obtain ⟨hc2, hf2, hz2⟩ := bcell hb2
      have HV5 := Lib.hid hb2
      clear hb2
      go_wp2
      go_roundw
      case rel => exact ⟨j + 1, by omega, by go_num, by rw [show k + (j + 1) * 6 = q + 6 from by have := HQ.out; omega]; go_num, ((((hb.trans (HV2.out.mono (by omega))).trans (HV3.out.mono (by omega))).trans (HV4.out.mono (by omega))).trans (HV5.out.mono (by omega)))⟩
      case measure => simp [intOf]; omega
    · obtain rfl : j = n := by omega
      go_wp2
      go_ret
      exact ⟨by rw [HQ.out]; rfl, hb⟩

set_option maxHeartbeats 1000000 in
theorem szHeader_out (h t : Int) (last vals next data : ByteArray) (left : Int) (w : World) (s1 : last.size ≤ maxLen) (s2 : vals.size ≤ maxLen) (s3 : next.size ≤ maxLen) (s4 : data.size ≤ maxLen) (h0 : 0 ≤ left) (h1 : left ≤ 1048576) :
    Calls Tryd.prog 24 #[.agg #[.int .i64 h, .int .i64 t, .string last, .string vals, .string next, .string data], .int .i64 left] w (SzOut 0 left w) := by
  unfold maxLen at s1 s2 s3 s4
  have HB : Hid (Below w.heap.size w (w.alloc (.cells #[.int .i64 h, .int .i64 t, .string last, .string vals, .string next, .string data] 43))) := (Below.refl _ _).alloc (Nat.le_refl _) _
  by_cases c1 : left < last.size
  · go_enter Tryd.func24, Tryd.ntmps24
    go_wp2
    go_ret
    exact ⟨-1, rfl, by omega, by omega, by omega, HB.out⟩
  by_cases c2 : left - last.size < vals.size
  · go_enter Tryd.func24, Tryd.ntmps24
    go_wp2
    go_ret
    exact ⟨-1, rfl, by omega, by omega, by omega, HB.out⟩
  by_cases c3 : left - last.size - vals.size < next.size
  · go_enter Tryd.func24, Tryd.ntmps24
    go_wp2
    go_ret
    exact ⟨-1, rfl, by omega, by omega, by omega, HB.out⟩
  by_cases c4 : left - last.size - vals.size - next.size < data.size
  · go_enter Tryd.func24, Tryd.ntmps24
    go_wp2
    go_ret
    exact ⟨-1, rfl, by omega, by omega, by omega, HB.out⟩
  go_enter Tryd.func24, Tryd.ntmps24
  go_wp2
  go_ret
  exact ⟨left - last.size - vals.size - next.size - data.size, rfl, by omega, by omega, by omega, HB.out⟩

set_option maxHeartbeats 800000 in
theorem szHeaderS_any (A : Option Addr) (n c : Nat) (left : Int) (l : List HeaderD) (w : World) (hl : RdL headC 6 w w.heap.size A n c l) (hs : ∀ x ∈ l, x.last.size ≤ maxLen ∧ x.vals.size ≤ maxLen ∧ x.next.size ≤ maxLen ∧ x.data.size ≤ maxLen) (h0 : 0 ≤ left) (h1 : left ≤ 1048576) :
    Calls Tryd.prog 36 #[.slice A n c, .int .i64 left] w (SzOut n left w) := by
  have hn := hl.le
  have HL := Lib.hid hl
  have HS := Lib.hid hs
  clear hl hs
  by_cases hlt : left < n
  · go_enter Tryd.func36, Tryd.ntmps36
    go_wp2
    go_ret
    exact ⟨-1, rfl, by omega, by omega, by omega, Below.refl _ _⟩
  go_enter Tryd.func36, Tryd.ntmps36
  go_wp2_with fail
  go_loopw [1, 5] (fun kk i wr => ∃ (j : Nat) (r : Int), j ≤ n ∧ i = .int .i64 j ∧ kk = .int .i64 r ∧ 0 ≤ r ∧ r ≤ left ∧ Below w.heap.size w wr) (fun _ i _ => n - (intOf i).toNat)
  case atStart => exact ⟨0, _, by omega, rfl, rfl, by omega, by omega, Below.refl _ _⟩
  case round =>
    obtain ⟨j, r, hj, rfl, rfl, hr0, hr1, hb⟩ := hrel
    have hz := hb.size
    by_cases hjn : j < n
    · obtain ⟨b, off, p, rfl, hb1, hp, c0, c1, c2, c3, c4, c5⟩ := head_cells (HL.out.below hb (Nat.le_refl _)) hjn
      have hps := HS.out p (List.mem_of_getElem? hp)
      have HP := Lib.hid hps
      clear hp hps
      go_wp2_with fail
      refine (szHeader_out p.h p.t p.last p.vals p.next p.data r _ HP.out.1 HP.out.2.1 HP.out.2.2.1 HP.out.2.2.2 hr0 (by omega)).mono ?_
      rintro e w1 ⟨r1, rfl, _, hr2, hr3, hb2⟩
      by_cases hneg : r1 < 0
      · go_wp2
        go_ret
        exact ⟨-1, rfl, by omega, by omega, by omega, hb.trans (hb2.mono hz)⟩
      · go_wp2
        go_roundw
        case rel => exact ⟨j + 1, r1, by omega, by go_num, rfl, by omega, by omega, hb.trans (hb2.mono hz)⟩
        case measure => simp [intOf]; omega
    · obtain rfl : j = n := by omega
      go_wp2
      go_ret
      exact ⟨r, rfl, by omega, by omega, by omega, hb⟩
end Go.Proofs.YtjdknaipmboekaaDoor
