/- Marks in slices of Vote, and their sizes (written by wip/mk.py). -/
import Derived.Test.YteifmlmmfghjjaaFamVote
import Derived.Test.YteifmlmmfghjjaaChg
import Derived.WalkKit
import Derived.WalkSpells
import Derived.WalkLawsBesides
import Derived.Lib.Hide
namespace Go.Proofs.Yteifmlmmfghjjaa
open Go.RowKit

def markVote (k : Nat) : VoteD := ⟨(k : Int), (k : Int) + 1, (k : Int) + 1 + 1, markT (k + 3), (k : Int) + 1 + 1 + 1 + 1⟩
def marksVote (k n : Nat) : List VoteD := (List.range n).map fun i => markVote (k + i * 5)
theorem marksVote_len (k n : Nat) : (marksVote k n).length = n := by simp [marksVote]
theorem marksVote_at (k n i : Nat) (h : i < n) : (marksVote k n)[i]? = some (markVote (k + i * 5)) := by simp [marksVote, h]

set_option maxHeartbeats 2000000 in
theorem markVoteS_any (T : TypeId) (A : Option Addr) (n c : Nat) (l : List VoteD) (lo hi k : Nat) (w : World) (hl : OwnL voteC 5 T w lo hi A n c l) (hk0 : 0 < k) (hn : n ≤ 2097152) (hk : k ≤ 100000000) :
    Calls Try.prog 42 #[.slice A n c, .int .i64 k] w (MarkOut voteC 5 T lo hi A n c (marksVote k n) ((k + n * 5 : Nat) : Int) w) := by
  obtain ⟨hll, h0 | ⟨g, cur, rfl, hg1, hg2, hblk, hnc, hcm, hsz, _⟩⟩ := hl
  · obtain ⟨rfl, rfl, rfl⟩ := h0
    go_enter Try.func42, Try.ntmps42
    go_wp2_with fail
    go_loop [1, 5] (fun kk i => kk = .int .i64 (k : Int) ∧ i = .int .i64 0) (fun _ _ => 0)
    case atStart => exact ⟨rfl, rfl⟩
    case round =>
    obtain ⟨rfl, rfl⟩ := hrel
    go_wp2
    go_ret
    exact ⟨by simp, ⟨by simp [marksVote], .inl ⟨rfl, rfl, rfl⟩⟩, Chg.refl _ _ _⟩
  · have hn' : n ≤ 9223372036854775807 := by omega
    have H0 : Hid (Laid voteC 5 (marksVote k n) 0 c w g T) := ⟨cur, hblk, hsz, fun j hj => absurd hj (by omega)⟩
    have hgw := hblk.lt
    clear hblk hsz
    go_enter Try.func42, Try.ntmps42
    go_wp2_with fail
    go_loopw [1, 5] (fun kk i wr => ∃ j : Nat, j ≤ n ∧ i = .int .i64 j ∧ kk = .int .i64 ((k + j * 5 : Nat) : Int) ∧ Chg lo hi w wr ∧ Laid voteC 5 (marksVote k n) j c wr g T) (fun _ i _ => n - (intOf i).toNat)
    case atStart => exact ⟨0, by omega, rfl, by simp, Chg.refl _ _ _, H0.out⟩
    case round =>
      obtain ⟨j, hj, rfl, rfl, hb, cur, h1, h2, h3⟩ := hrel
      have H1 := Lib.hid h1; have H2 := Lib.hid h2; have H3 := Lib.hid h3
      have hgr := h1.lt
      have qf := H1.out.frozen
      clear h1 h2 h3 H0
      generalize hq : k + j * 5 = q
      have HQ := Lib.hid hq
      have hq1 : q ≤ 1000000000 := by omega
      have hq0 : 0 < q := by omega
      clear hq
      by_cases hjn : j < n
      · have hsz : j * 5 + 5 ≤ cur.size := by rw [H2.out]; have := Nat.mul_le_mul_right 5 (show j + 1 ≤ c by omega); omega
        have q0 := H1.out.has (j * 5) (by omega)
        have q1 := H1.out.has (j * 5 + 1) (by omega)
        have q2 := H1.out.has (j * 5 + 2) (by omega)
        have q3 := H1.out.has (j * 5 + 3) (by omega)
        have q4 := H1.out.has (j * 5 + 4) (by omega)
        go_wp2_with fail
        refine (markText_at _ (q + 3) _ (by omega) (by omega) (by push_cast; omega)).mono ?_
        rintro e v3 ⟨rfl, hb3⟩
        have HV3 := Lib.hid hb3
        obtain ⟨hc3, hf3, hz3⟩ := bcell hb3
        clear hb3
        go_wp2
        go_roundw
        case rel => exact ⟨j + 1, by omega, by go_num, by rw [show k + (j + 1) * 5 = q + 5 from by have := HQ.out; omega]; go_num, ((((((hb.setCell hg1 hg2 _).setCell hg1 hg2 _).setCell hg1 hg2 _).below_trans HV3.out).setCell hg1 hg2 _).setCell hg1 hg2 _),
          Laid.next voteC_len (marksVote_at k n j hjn) ((((((H1.out.set_ _ _).set_ _ _).set_ _ _).below HV3.out (by simp; omega)).set_ _ _).set_ _ _) (by simpa using H2.out) (fun i hi => by simp [Array.getElem?_setIfInBounds]; rw [if_neg (by omega), if_neg (by omega), if_neg (by omega), if_neg (by omega), if_neg (by omega)]; exact H3.out i hi)
            (fun i hi => by rw [HQ.out]; rcases (by omega : i = 0 ∨ i = 1 ∨ i = 2 ∨ i = 3 ∨ i = 4) with rfl | rfl | rfl | rfl | rfl <;> simp [Array.getElem?_setIfInBounds, voteC, markVote] <;> omega)⟩
        case measure => simp [intOf]; omega
      · obtain rfl : j = n := by omega
        go_wp2
        go_ret
        exact ⟨by rw [HQ.out]; rfl, ⟨marksVote_len _ _, .inr ⟨g, cur, rfl, hg1, hg2, H1.out, hnc, hcm, H2.out, H3.out⟩⟩, hb⟩

set_option maxHeartbeats 2000000 in
theorem heldVoteS_any (A : Option Addr) (n c : Nat) (k : Nat) (w : World) (hl : RdL voteC 5 w w.heap.size A n c (marksVote k n)) (hk0 : 0 < k) (hn : n ≤ 2097152) (hk : k ≤ 100000000) :
    Calls Try.prog 43 #[.slice A n c, .int .i64 k] w fun e w' => e = .returned (.int .i64 ((k + n * 5 : Nat) : Int)) ∧ Below w.heap.size w w' := by
  have HL := Lib.hid hl
  clear hl
  go_enter Try.func43, Try.ntmps43
  go_wp2_with fail
  go_loopw [1, 5] (fun kk i wr => ∃ j : Nat, j ≤ n ∧ i = .int .i64 j ∧ kk = .int .i64 ((k + j * 5 : Nat) : Int) ∧ Below w.heap.size w wr) (fun _ i _ => n - (intOf i).toNat)
  case atStart => exact ⟨0, by omega, rfl, by simp, Below.refl _ _⟩
  case round =>
    obtain ⟨j, hj, rfl, rfl, hb⟩ := hrel
    have hz := hb.size
    generalize hq : k + j * 5 = q
    have HQ := Lib.hid hq
    have hq1 : q ≤ 1000000000 := by omega
    have hq0 : 0 < q := by omega
    clear hq
    by_cases hjn : j < n
    · obtain ⟨b, off, p, rfl, hb1, hp, c0, c1, c2, c3, c4⟩ := vote_cells (HL.out.below hb (Nat.le_refl _)) hjn
      rw [marksVote_at k n j hjn, HQ.out] at hp
      obtain rfl : markVote q = p := by injection hp
      clear hp
      simp only [markVote] at c0 c1 c2 c3 c4
      have hbl : b < wr.heap.size := by omega
      go_wp2_with fail
      refine wp_region_below (by kernel_rfl) (by kernel_rfl) ?_
      repeat (first | go_big_quiet_skip | (go_big_quiet_want; go_big_quiet_op; first | go_big_quiet_on | (apply Exists.intro; refine ⟨fun w1 hC => ?_, ?_⟩; (focus (first | rfl | (go_at_call 55; exact quiet_below hC (markText_at _ (q + 3) _ (by omega) (by omega) (by push_cast; omega))) | (simp [(bcell hC).1, hbl, c3]; done) | (simp [(bcell hC).1, hbl, c3]; rfl))); go_big_quiet_on)))
      refine wpQuiet_nil ?_
      intro w2 hb2
      obtain ⟨hc2, hf2, hz2⟩ := bcell hb2
      have HV3 := Lib.hid hb2
      clear hb2
      go_wp2
      go_roundw
      case rel => exact ⟨j + 1, by omega, by go_num, by rw [show k + (j + 1) * 5 = q + 5 from by have := HQ.out; omega]; go_num, (hb.trans (HV3.out.mono (by omega)))⟩
      case measure => simp [intOf]; omega
    · obtain rfl : j = n := by omega
      go_wp2
      go_ret
      exact ⟨by rw [HQ.out]; rfl, hb⟩

theorem szVote_out (h r st : Int) (id : ByteArray) (v : Int) (left : Int) (w : World) (hs : id.size ≤ maxLen) (hl : 0 ≤ left) (hm : left ≤ 1048576) :
    Calls Try.prog 19 #[.agg #[.int .i64 h, .int .i64 r, .int .i64 st, .string id, .int .i64 v], .int .i64 left] w (SzOut 0 left w) := by
  refine (szVote_any h r st id v left w hl hm hs).mono ?_
  rintro e w' ⟨rfl, hb⟩
  exact ⟨_, rfl, by split <;> omega, by split <;> omega, by split <;> omega, hb⟩

set_option maxHeartbeats 800000 in
theorem szVoteS_any (A : Option Addr) (n c : Nat) (left : Int) (l : List VoteD) (w : World) (hl : RdL voteC 5 w w.heap.size A n c l) (hs : ∀ x ∈ l, x.id.size ≤ maxLen) (h0 : 0 ≤ left) (h1 : left ≤ 1048576) :
    Calls Try.prog 29 #[.slice A n c, .int .i64 left] w (SzOut n left w) := by
  have hn := hl.le
  have HL := Lib.hid hl
  have HS := Lib.hid hs
  clear hl hs
  by_cases hlt : left < n
  · go_enter Try.func29, Try.ntmps29
    go_wp2
    go_ret
    exact ⟨-1, rfl, by omega, by omega, by omega, Below.refl _ _⟩
  go_enter Try.func29, Try.ntmps29
  go_wp2_with fail
  go_loopw [1, 5] (fun kk i wr => ∃ (j : Nat) (r : Int), j ≤ n ∧ i = .int .i64 j ∧ kk = .int .i64 r ∧ 0 ≤ r ∧ r ≤ left ∧ Below w.heap.size w wr) (fun _ i _ => n - (intOf i).toNat)
  case atStart => exact ⟨0, _, by omega, rfl, rfl, by omega, by omega, Below.refl _ _⟩
  case round =>
    obtain ⟨j, r, hj, rfl, rfl, hr0, hr1, hb⟩ := hrel
    have hz := hb.size
    by_cases hjn : j < n
    · obtain ⟨b, off, p, rfl, hb1, hp, c0, c1, c2, c3, c4⟩ := vote_cells (HL.out.below hb (Nat.le_refl _)) hjn
      have hps := HS.out p (List.mem_of_getElem? hp)
      have HP := Lib.hid hps
      clear hp hps
      go_wp2_with fail
      refine (szVote_out p.h p.r p.st p.id p.v r _ HP.out hr0 (by omega)).mono ?_
      rintro e w1 ⟨r1, rfl, _, hr2, hr3, hb2⟩
      by_cases hneg : r1 < 0
      · go_wp2
        go_ret
        exact ⟨-1, rfl, by omega, by omega, by omega, hb.trans (hb2.mono hz)⟩
      · go_wp2
        go_roundw
        case rel => exact ⟨j + 1, r1, by omega, by go_num, rfl, by omega, by omega, hb.trans (hb2.mono hz)⟩
        case measure => simp [intOf]; omega
    · obtain rfl : j = n := by omega
      go_wp2
      go_ret
      exact ⟨r, rfl, by omega, by omega, by omega, hb⟩
end Go.Proofs.Yteifmlmmfghjjaa
