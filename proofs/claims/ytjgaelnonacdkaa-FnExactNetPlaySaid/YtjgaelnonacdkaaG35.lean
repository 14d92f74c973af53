/- Held2, Net2: joined into one text. -/
import Derived.WalkKit
import Derived.WalkSpells
import Derived.WalkLawsBesides
import Derived.Lib.Hide
import Derived.Test.YtjgaelnonacdkaaG17
import Derived.Test.YtjgaelnonacdkaaMNodesMk
namespace Go.Proofs.Ytjgaelnonacdkaa
open Go.RowKit

theorem netB_msgs {ln : List NodeD} {lp : List NMsgD} (h : netB ln lp = true) : msgsOk lp = true := by
  simp only [netB, Bool.and_eq_true] at h
  exact h.1.2.1
theorem allTo_iff {α : Type} {f : Nat → α → Bool} {l : List α} : allTo f l l.length = true ↔ ∀ (k : Nat) (x : α), l[k]? = some x → f k x = true := by
  constructor
  · intro h k x hk
    cases hx : f k x
    · rw [allTo_no hk hx] at h; cases h
    · rfl
  · intro h
    have : ∀ k, k ≤ l.length → allTo f l k = true := by
      intro k
      induction k with
      | zero => intro _; exact allTo_zero _ _
      | succ k ih =>
        intro hk
        have hx : l[k]? = some l[k] := List.getElem?_eq_getElem (by omega)
        rw [allTo_succ hx, ih (by omega), h k _ hx]; rfl
    exact this _ (Nat.le_refl _)
theorem msgsOk_at {l : List NMsgD} (h : msgsOk l = true) {k : Nat} {m : NMsgD} (hk : l[k]? = some m) : okMsg m = true := by
  have := (allTo_iff.1 h) k m hk
  simp only [freshMsg, Bool.and_eq_true] at this
  exact this.1
theorem cntStep_mem {k r v : Int} {fs : List Int} {m : NMsgD} {x : Int} (h : x ∈ cntStep k r v fs m) : x ∈ fs ∨ (m.k = k ∧ m.r = r ∧ m.v = v) := by
  unfold cntStep at h
  split at h
  · rename_i hc
    simp only [Bool.and_eq_true, beq_iff_eq] at hc
    simp only [List.mem_append, List.mem_singleton] at h
    rcases h with h | h
    · exact .inl h
    · exact .inr ⟨hc.1.1.1, hc.1.1.2, hc.1.2⟩
  · exact .inl h
theorem froms_mem {k r v : Int} {l : List NMsgD} {x : Int} (h : x ∈ froms l k r v) : ∃ m ∈ l, m.k = k ∧ m.r = r ∧ m.v = v := by
  have : ∀ (l : List NMsgD) (fs : List Int), x ∈ l.foldl (cntStep k r v) fs → x ∈ fs ∨ ∃ m ∈ l, m.k = k ∧ m.r = r ∧ m.v = v := by
    intro l
    induction l with
    | nil => intro fs h; exact .inl h
    | cons m l ih =>
      intro fs h
      rcases ih _ h with h | ⟨y, hy, hh⟩
      · rcases cntStep_mem h with h | h
        · exact .inl h
        · exact .inr ⟨m, by simp, h⟩
      · exact .inr ⟨y, by simp [hy], hh⟩
  rcases this l [] h with h | h
  · cases h
  · exact h
theorem count_pos {k r v : Int} {l : List NMsgD} (h : ¬ countN l k r v < 3) : ∃ m ∈ l, m.k = k ∧ m.r = r ∧ m.v = v := by
  unfold countN at h
  cases hf : froms l k r v with
  | nil => rw [hf] at h; simp at h
  | cons x t => exact froms_mem (x := x) (by rw [hf]; simp)
def rvTo (lp : List NMsgD) (R V : Nat) : Prop := ∀ r v : Nat, v < 20 → (r < R ∨ (r = R ∧ v < V)) → heldRV lp r (v + 1) = true
theorem rv_all {lp : List NMsgD} (h : msgsOk lp = true) : allTo (heldA lp) lp lp.length = true ↔ rvTo lp 12 0 := by
  rw [allTo_iff]
  constructor
  · intro ha r v hv hr
    cases hc : decide (countN lp 3 r (v + 1) < 3)
    · simp only [decide_eq_false_iff_not] at hc
      obtain ⟨m, hm, e1, e2, e3⟩ := count_pos hc
      obtain ⟨k, hk⟩ := List.getElem?_of_mem hm
      have := ha k m hk
      simp only [heldA, e1, e2, e3] at this
      have h0 : (((v : Int) + 1) == 0) = false := by simp; omega
      simpa [h0] using this
    · simp only [heldRV, hc]; rfl
  · intro ha k a hk
    have ho := msgsOk_at h hk
    cases hk3 : (a.k == 3)
    · simp [heldA, hk3]
    · cases hv0 : (a.v == 0)
      · simp only [okMsg, msgB, Bool.and_eq_true, inB_iff] at ho
        have hk' : a.k = 3 := by simpa using hk3
        have hv' : ¬ a.v = 0 := by simpa using hv0
        have hr : 0 ≤ a.r ∧ a.r ≤ 11 := by omega
        have hv : 0 ≤ a.v ∧ a.v ≤ 20 := by
          have h2 := ho
          simp only [hk'] at h2
          simp [inB_iff] at h2
          omega
        obtain ⟨r, er⟩ := Int.eq_ofNat_of_zero_le hr.1
        obtain ⟨v, ev⟩ := Int.eq_ofNat_of_zero_le (show 0 ≤ a.v - 1 by omega)
        have := ha r v (by omega) (.inl (by omega))
        simp only [heldA]
        rw [er, show a.v = (v : Int) + 1 by omega, this]
        simp
      · simp [heldA, hv0]
theorem rv_next {lp : List NMsgD} {R V : Nat} (h : rvTo lp R V) (hv : heldRV lp R (V + 1) = true) : rvTo lp R (V + 1) := by
  intro r v h1 h2
  rcases h2 with h2 | ⟨rfl, h2⟩
  · exact h r v h1 (.inl h2)
  · by_cases h3 : v < V
    · exact h r v h1 (.inr ⟨rfl, h3⟩)
    · obtain rfl : v = V := by omega
      exact hv
theorem rv_row {lp : List NMsgD} {R : Nat} (h : rvTo lp R 20) : rvTo lp (R + 1) 0 := by
  intro r v h1 h2
  by_cases h3 : r < R
  · exact h r v h1 (.inl h3)
  · exact h r v h1 (.inr ⟨by omega, by omega⟩)
theorem rv_zero (lp : List NMsgD) : rvTo lp 0 0 := fun r v _ h2 => by omega
theorem rv_no {lp : List NMsgD} {R V : Nat} (h : msgsOk lp = true) (hR : R < 12) (hV : V < 20) (hv : heldRV lp R (V + 1) = false) : allTo (heldA lp) lp lp.length = false := by
  cases ha : allTo (heldA lp) lp lp.length
  · rfl
  · have := (rv_all h).1 ha R V hV (.inl hR)
    rw [hv] at this; cases this

set_option maxRecDepth 100000 in
set_option maxHeartbeats 4000000 in
theorem sHeld_any (A : Option Addr) (n c : Nat) (P : Option Addr) (p d : Nat) (ln : List NodeD) (lp : List NMsgD) (w : World) (hl : NodesRd w w.heap.size A n c ln) (hp : RdL msgC 5 w w.heap.size P p d lp) :
    Calls Try.prog 29 #[.agg #[.slice A n c, .slice P p d]] w fun e w' => e = .returned (.bool (heldB ln lp)) ∧ Below w.heap.size w w' := by
  obtain rfl : lp.length = p := hp.1
  have hpn := hp.le
  have HL := Lib.hid hl
  have HP := Lib.hid hp
  clear hl hp
  cases hN : netB ln lp
  · have HE : Hid (heldB ln lp = false) := by show _ = _; simp [heldB, hN]
    have HN := Lib.hid hN
    clear hN
    go_enter Try.func29, Try.ntmps29
    go_wp2_with fail
    refine (sNetOk_any A n c P lp.length d ln lp _ (by exact (HL.out.alloc (Nat.le_refl _) _).more (by simp)) (by exact (HP.out.alloc (Nat.le_refl _) _).more (by simp))).mono ?_
    rw [HN.out]
    rintro e w1 ⟨rfl, hb⟩
    have HW : Hid (Below w.heap.size w w1) := (by repeat (first | exact Below.refl _ _ | assumption | refine Below.drew ?_ | refine belN ?_ _ | refine Below.alloc ?_ (by first | exact Nat.le_refl _ | (simp; done) | (simp; omega) | omega) _ | refine Below.setCell ?_ (by first | exact Nat.le_refl _ | (simp; done) | (simp; omega) | omega) _ | refine Below.trans ?_ (Below.mono (by assumption) (by first | exact Nat.le_refl _ | (simp; done) | (simp; omega) | omega))))
    clear hb
    go_wp2_with fail
    go_ret
    exact ⟨by rw [HE.out]; rfl, HW.out⟩
  have hp150 : lp.length ≤ 1048576 := by have := netB_pool hN; omega
  have HE : Hid (heldB ln lp = allTo (heldA lp) lp lp.length) := by show _ = _; simp [heldB, hN]
  have HM0 := Lib.hid (netB_msgs hN)
  have HN := Lib.hid hN
  clear hN
  go_enter Try.func29, Try.ntmps29
  go_wp2_with fail
  refine (sNetOk_any A n c P lp.length d ln lp _ (by exact (HL.out.alloc (Nat.le_refl _) _).more (by simp)) (by exact (HP.out.alloc (Nat.le_refl _) _).more (by simp))).mono ?_
  rw [HN.out]
  rintro e w1 ⟨rfl, hb⟩
  obtain ⟨hc, hf, hz⟩ := bcell hb
  have hz0 : w.heap.size < w1.heap.size := by simp at hz; omega
  have HW : Hid (Below w.heap.size w w1) := (by repeat (first | exact Below.refl _ _ | assumption | refine Below.drew ?_ | refine belN ?_ _ | refine Below.alloc ?_ (by first | exact Nat.le_refl _ | (simp; done) | (simp; omega) | omega) _ | refine Below.setCell ?_ (by first | exact Nat.le_refl _ | (simp; done) | (simp; omega) | omega) _ | refine Below.trans ?_ (Below.mono (by assumption) (by first | exact Nat.le_refl _ | (simp; done) | (simp; omega) | omega))))
  have s1 : w1.cell? ⟨w.heap.size, 1, none⟩ = some (.slice P lp.length d) := by rw [hc _ _ (by simp)]; simp
  clear hc hf hz hb
  go_wp2_with fail
  go_loopw [3] (fun i wr => ∃ R : Nat, R ≤ 12 ∧ i = .int .i64 R ∧ Below w1.heap.size w1 wr ∧ rvTo lp R 0) (fun i _ => 12 - (intOf i).toNat)
  case atStart => exact ⟨0, by omega, rfl, Below.refl _ _, rv_zero _⟩
  case round =>
    obtain ⟨R, hR, rfl, hb, hno⟩ := hrel
    obtain ⟨wo, rfl⟩ : ∃ wo : World, wo = wr := ⟨_, rfl⟩
    have HNO := Lib.hid hno; clear hno
    have hz : w1.heap.size ≤ wo.heap.size := hb.size
    have HBO := Lib.hid hb
    clear hb
    by_cases hRn : R < 12
    · have hRb : decide ((R : Int) < 12) = true := by simp; omega
      go_wp2_with fail
      go_loopw [4] (fun i wr => ∃ V : Nat, V ≤ 20 ∧ i = .int .i64 (V + 1) ∧ Below w1.heap.size w1 wr ∧ rvTo lp R V) (fun i _ => 21 - (intOf i).toNat)
      case atStart => exact ⟨0, by omega, rfl, HBO.out, HNO.out⟩
      case round =>
        obtain ⟨V, hV, rfl, hb, hno⟩ := hrel
        obtain ⟨wv, rfl⟩ : ∃ wo : World, wo = wr := ⟨_, rfl⟩
        have HNV := Lib.hid hno; clear hno
        have hzv : w1.heap.size ≤ wv.heap.size := hb.size
        have hz1 : w.heap.size < wv.heap.size := by omega
        have HBV := Lib.hid hb
        have HB : Hid (Below w.heap.size w wv) := HW.out.trans (hb.mono (by omega))
        have t1 : wv.cell? ⟨w.heap.size, 1, none⟩ = some (.slice P lp.length d) := (hb.cell (p := ⟨w.heap.size, 1, none⟩) hz0).trans s1
        have HR := Lib.hid ((HP.out.below HB.out (Nat.le_refl _)).more HB.out.size)
        clear hb
        by_cases hVn : V < 20
        · obtain ⟨cn, hcn⟩ : ∃ q, countN lp 3 R (V + 1) = q := ⟨_, rfl⟩
          have HC := Lib.hid hcn
          clear hcn
          go_wp2_with fail
          refine (l16Count_any P lp.length d lp 3 R (V + 1) _ HR.out hp150 (froms4_of HM0.out)).mono ?_
          rw [HC.out]
          rintro e w2 ⟨rfl, hb⟩
          have hs2 : wv.heap.size ≤ w2.heap.size := hb.size
          have B2 := Lib.hid hb
          have y1 : w2.cell? ⟨w.heap.size, 1, none⟩ = some (.slice P lp.length d) := (hb.cell (p := ⟨w.heap.size, 1, none⟩) hz1).trans t1
          clear hb
          by_cases q3 : cn < 3
          case pos =>
            have HF : Hid (heldRV lp R (V + 1) = true) := by show _ = _; simp [heldRV, HC.out, q3]
            go_wp2_with fail
            go_roundw
            case rel => exact ⟨V + 1, by omega, by go_num, HBV.out.trans (B2.out.mono hzv), rv_next HNV.out HF.out⟩
            case measure => simp [intOf]; omega
          have hz3 : w.heap.size < w2.heap.size := by omega
          go_wp2_with fail
          go_loopw [5] (fun i wr => ∃ j : Nat, j ≤ lp.length ∧ i = .int .i64 j ∧ Below w2.heap.size w2 wr ∧ noneTo (badM R (V + 1)) lp j = true) (fun i _ => lp.length - (intOf i).toNat)
          case atStart => exact ⟨0, by omega, rfl, Below.refl _ _, noneTo_zero _ _⟩
          case round =>
            obtain ⟨j, hj, rfl, hb, hno⟩ := hrel
            have HN2 := Lib.hid hno; clear hno
            have hzr : w2.heap.size ≤ wr.heap.size := hb.size
            have HBR := Lib.hid hb
            have u1 : wr.cell? ⟨w.heap.size, 1, none⟩ = some (.slice P lp.length d) := (hb.cell (p := ⟨w.heap.size, 1, none⟩) hz3).trans y1
            clear hb
            have HB3 := Lib.hid (B2.out.trans (HBR.out.mono (by omega)))
            by_cases hjn : j < lp.length
            · obtain ⟨b, off, m, rfl, hb2, hy, d0, d1, d2, d3, d4⟩ := msg_cells (HR.out.below HB3.out (Nat.le_refl _)) hjn
              have HM := Lib.hid hy
              clear hy
              have hb2' : b < wr.heap.size := by omega
              cases t1 : (m.k == 3)
              case false =>
                have HF : Hid (badM (R : Int) ((V : Int) + 1) m = false) := by show _ = _; simp [badM, *]
                go_wp2_with fail
                go_roundw
                case rel => exact ⟨j + 1, by omega, by go_num, HBR.out.alloc HBR.out.size _, noneTo_succ HM.out HN2.out HF.out⟩
                case measure => simp [intOf]; omega
              by_cases t2 : m.f ≤ 3
              case neg =>
                have HF : Hid (badM (R : Int) ((V : Int) + 1) m = false) := by show _ = _; simp [badM, *]
                go_wp2_with fail
                go_roundw
                case rel => exact ⟨j + 1, by omega, by go_num, HBR.out.alloc HBR.out.size _, noneTo_succ HM.out HN2.out HF.out⟩
                case measure => simp [intOf]; omega
              by_cases t3 : (R : Int) < m.r
              case neg =>
                have HF : Hid (badM (R : Int) ((V : Int) + 1) m = false) := by show _ = _; simp [badM, *]
                go_wp2_with fail
                go_roundw
                case rel => exact ⟨j + 1, by omega, by go_num, HBR.out.alloc HBR.out.size _, noneTo_succ HM.out HN2.out HF.out⟩
                case measure => simp [intOf]; omega
              by_cases t4 : 0 < m.v
              case neg =>
                have HF : Hid (badM (R : Int) ((V : Int) + 1) m = false) := by show _ = _; simp [badM, *]
                go_wp2_with fail
                go_roundw
                case rel => exact ⟨j + 1, by omega, by go_num, HBR.out.alloc HBR.out.size _, noneTo_succ HM.out HN2.out HF.out⟩
                case measure => simp [intOf]; omega
              cases t5 : (m.v == ((V : Int) + 1))
              case true =>
                have t5n : (m.v != ((V : Int) + 1)) = false := by simp only [bne, t5]; rfl
                have HF : Hid (badM (R : Int) ((V : Int) + 1) m = false) := by show _ = _; simp [badM, *]
                go_wp2_with fail
                go_roundw
                case rel => exact ⟨j + 1, by omega, by go_num, HBR.out.alloc HBR.out.size _, noneTo_succ HM.out HN2.out HF.out⟩
                case measure => simp [intOf]; omega
              have t5n : (m.v != ((V : Int) + 1)) = true := by simp only [bne, t5]; rfl
              have HF : Hid (allTo (heldA lp) lp lp.length = false) := rv_no HM0.out hRn hVn (by simp only [heldRV, HC.out]; rw [noneTo_no HM.out hjn (by simp [badM, *])]; simp; omega)
              go_wp2_with fail
              go_ret
              exact ⟨by rw [HE.out, HF.out]; rfl, HB.out.trans ((HB3.out.alloc (by omega) _).mono HB.out.size)⟩
            · obtain rfl : j = lp.length := by omega
              have HF : Hid (heldRV lp R (V + 1) = true) := by show _ = _; simp [heldRV, HN2.out]
              go_wp2_with fail
              go_roundw
              case rel => exact ⟨V + 1, by omega, by go_num, HBV.out.trans (HB3.out.mono hzv), rv_next HNV.out HF.out⟩
              case measure => simp [intOf]; omega
        · obtain rfl : V = 20 := by omega
          go_wp2_with fail
          go_roundw
          case rel => exact ⟨R + 1, by omega, by go_num, HBV.out, rv_row HNV.out⟩
          case measure => simp [intOf]; omega
    · obtain rfl : R = 12 := by omega
      have HF : Hid (allTo (heldA lp) lp lp.length = true) := (rv_all HM0.out).2 HNO.out
      have HB : Hid (Below w.heap.size w wo) := HW.out.trans (HBO.out.mono (by omega))
      go_wp2
      go_ret
      exact ⟨by rw [HE.out, HF.out]; rfl, HB.out⟩
end Go.Proofs.Ytjgaelnonacdkaa
namespace Go.Proofs.Ytjgaelnonacdkaa
open Go.RowKit

def sumM (ln : List NodeD) : Nat := (ln.map fun x => x.l.length).sum
theorem sumM_next {ln : List NodeD} {j : Nat} {x : NodeD} (h : ln[j]? = some x) : sumM (ln.take (j + 1)) = sumM (ln.take j) + x.l.length := by
  unfold sumM
  rw [List.take_add_one, h]
  simp
theorem szND_sum (ln : List NodeD) : szND ln = 9 * ln.length + 5 * sumM ln := by
  unfold szND sumM
  induction ln with
  | nil => rfl
  | cons x l ih => simp only [List.map_cons, List.sum_cons, List.length_cons, ih]; omega
theorem sumM_mem {ln : List NodeD} {x : NodeD} (h : x ∈ ln) : x.l.length ≤ sumM ln := by
  unfold sumM
  induction ln with
  | nil => cases h
  | cons y l ih =>
    simp only [List.map_cons, List.sum_cons]
    simp only [List.mem_cons] at h
    rcases h with rfl | h
    · omega
    · have := ih h; omega
def SzN2 (ln : List NodeD) (left : Int) (w : World) (e : Ending) (w' : World) : Prop :=
  ∃ r : Int, e = .returned (.int .i64 r) ∧ (0 ≤ r → r + ln.length + sumM ln ≤ left) ∧ -1 ≤ r ∧ r ≤ left ∧ Below w.heap.size w w'
def SzNet2 (ln : List NodeD) (lp : List NMsgD) (left : Int) (w : World) (e : Ending) (w' : World) : Prop :=
  ∃ r : Int, e = .returned (.int .i64 r) ∧ (0 ≤ r → (ln.length : Int) + sumM ln + lp.length ≤ left) ∧ -1 ≤ r ∧ r ≤ left ∧ Below w.heap.size w w'
/-- a net handed back, its nodes below its pool -/
def NetOut2 (ln : List NodeD) (lp : List NMsgD) (w : World) (e : Ending) (w' : World) : Prop :=
  ∃ A c P d mid, e = .returned (.agg #[.slice A ln.length c, .slice P lp.length d]) ∧ w.heap.size ≤ mid ∧ mid ≤ w'.heap.size ∧ NodesOwn w' w.heap.size mid A ln.length c ln ∧ OwnL msgC 5 49 w' mid w'.heap.size P lp.length d lp ∧ Below w.heap.size w w'

set_option maxHeartbeats 2000000 in
theorem szNodeS2_any (A : Option Addr) (n c : Nat) (left : Int) (ln : List NodeD) (w : World) (hl : NodesRd w w.heap.size A n c ln) (h0 : 0 ≤ left) (h1 : left ≤ 1048576) :
    Calls Try.prog 43 #[.slice A n c, .int .i64 left] w (SzN2 ln left w) := by
  have hn := hl.le
  have hln : ln.length = n := by obtain ⟨_, _, h, _⟩ := hl; exact h
  have HLN := Lib.hid hln
  have HL := Lib.hid hl
  clear hl hln
  by_cases hlt : left < n
  · go_enter Try.func43, Try.ntmps43
    go_wp2
    go_ret
    exact ⟨-1, rfl, by omega, by omega, by omega, Below.refl _ _⟩
  go_enter Try.func43, Try.ntmps43
  go_wp2_with fail
  go_loopw [1, 5] (fun kk i wr => ∃ (j : Nat) (r : Int), j ≤ n ∧ i = .int .i64 j ∧ kk = .int .i64 r ∧ 0 ≤ r ∧ r + n + sumM (ln.take j) = left ∧ Below w.heap.size w wr) (fun _ i _ => n - (intOf i).toNat)
  case atStart => exact ⟨0, left - n, by omega, rfl, rfl, by omega, by simp [sumM], Below.refl _ _⟩
  case round =>
    obtain ⟨j, r, hj, rfl, rfl, hr0, hr1, hb⟩ := hrel
    have hz := hb.size
    by_cases hjn : j < n
    · obtain ⟨b, off, s, A1, n1, c1, l, rfl, hb1, hp, hr, c0, c1', c2, c3, c4, c5, c6, c7, c8, c9⟩ := (HL.out.below hb (Nat.le_refl _)).at_ hjn
      have hn1 := hr.le
      have HR := Lib.hid hr
      have hsm := sumM_next hp
      have hl1 : l.length = n1 := hr.1
      have HR := Lib.hid hr
      clear hp hr
      go_wp2_with fail
      refine (szNode_any s _ _ _ r _ hn1 hr0 (by omega)).mono ?_
      by_cases hlt2 : r < n1
      · rw [if_pos hlt2]
        rintro e w1 ⟨rfl, hb2⟩
        go_wp2
        go_ret
        exact ⟨-1, rfl, by omega, by omega, by omega, hb.trans (hb2.mono hz)⟩
      · rw [if_neg hlt2]
        rintro e w1 ⟨rfl, hb2⟩
        have hr2 : ¬ r - n1 < 0 := by omega
        go_wp2
        go_roundw
        case rel => exact ⟨j + 1, r - n1, by omega, by go_num, rfl, by omega, by omega, hb.trans (hb2.mono hz)⟩
        case measure => simp [intOf]; omega
    · obtain rfl : j = n := by omega
      have hall : ln.take j = ln := List.take_of_length_le (by rw [HLN.out]; exact Nat.le_refl _)
      rw [hall] at hr1
      go_wp2
      go_ret
      exact ⟨r, rfl, fun _ => by rw [HLN.out]; omega, by omega, by omega, hb⟩

theorem szNet2_any (A : Option Addr) (n c : Nat) (P : Option Addr) (p d : Nat) (left : Int) (ln : List NodeD) (lp : List NMsgD) (w : World) (hl : NodesRd w w.heap.size A n c ln) (hp : RdL msgC 5 w w.heap.size P p d lp) (h0 : 0 ≤ left) (h1 : left ≤ 1048576) :
    Calls Try.prog 16 #[.agg #[.slice A n c, .slice P p d], .int .i64 left] w (SzNet2 ln lp left w) := by
  have HL := Lib.hid hl
  have HP := Lib.hid hp
  have hpn := hp.le
  clear hl hp
  go_enter Try.func16, Try.ntmps16
  go_wp2_with fail
  refine (szNodeS2_any A n c left ln _ ?_ h0 h1).mono ?_
  · refine NodesRd.more (B := w.heap.size) ?_ (by first | (simp; done) | (simp; omega))
    repeat refine NodesRd.alloc ?_ (by first | (simp; done) | (simp; omega)) _
    exact HL.out
  rintro e w1 ⟨r, rfl, hr1, hr2, hr3, hb⟩; obtain ⟨hc, hf, hz⟩ := bcell hb
  have HR := Lib.hid hr1; clear hr1
  have hy : w.heap.size + 1 ≤ w1.heap.size := by simp at hz; omega
  have hy0 : w.heap.size < w1.heap.size := by omega
  have HB : Hid (Below w.heap.size w w1) := (by repeat (first | exact Below.refl _ _ | assumption | refine Below.drew ?_ | refine belN ?_ _ | refine Below.alloc ?_ (by first | exact Nat.le_refl _ | (simp; done) | (simp; omega) | omega) _ | refine Below.setCell ?_ (by first | exact Nat.le_refl _ | (simp; done) | (simp; omega) | omega) _ | refine Below.trans ?_ (Below.mono (by assumption) (by first | exact Nat.le_refl _ | (simp; done) | (simp; omega) | omega))))
  by_cases hr : r < 0
  · go_wp2
    go_ret
    exact ⟨-1, rfl, by omega, by omega, by omega, HB.out⟩
  have hr0 : 0 ≤ r := by omega
  by_cases hq : r < p
  · go_wp2_with (go_at_call 44; go_must (refine (szNMsgS_any P p d r _ hpn hr0 (by omega)).mono ?_); go_must (rw [if_pos hq]); rintro e w' ⟨rfl, rfl⟩)
    go_ret
    exact ⟨-1, rfl, by omega, by omega, by omega, HB.out⟩
  · go_wp2_with (go_at_call 44; go_must (refine (szNMsgS_any P p d r _ hpn hr0 (by omega)).mono ?_); go_must (rw [if_neg (show ¬ (r < (p : Int)) by omega)]); rintro e w' ⟨rfl, rfl⟩)
    go_ret
    refine ⟨r - p, rfl, fun _ => by have := HR.out hr0; rw [HP.out.1]; omega, by omega, by omega, HB.out⟩
set_option maxHeartbeats 1000000 in
theorem toNet2_any (A : Option Addr) (c : Nat) (P : Option Addr) (d : Nat) (ln : List NodeD) (lp : List NMsgD) (w : World) (hl : NodesRd w w.heap.size A ln.length c ln) (hp : RdL msgC 5 w w.heap.size P lp.length d lp)
    (hn : ln.length ≤ 1048576) (hm : ∀ x ∈ ln, x.l.length ≤ 1048576) (hpn : lp.length ≤ 1048576) :
    Calls Try.prog 18 #[.agg #[.slice A ln.length c, .slice P lp.length d]] w (NetOut2 ln lp w) := by
  have HL := Lib.hid hl
  have HP := Lib.hid hp
  have HM := Lib.hid hm
  clear hl hp hm
  go_enter Try.func18, Try.ntmps18
  go_wp2_with fail
  refine (toNodeS_any A c ln _ ?_ hn HM.out).mono ?_
  · refine NodesRd.more (B := w.heap.size) ?_ (by first | (simp; done) | (simp; omega))
    repeat refine NodesRd.alloc ?_ (by first | (simp; done) | (simp; omega)) _
    exact HL.out
  rintro e w1 ⟨A1, c1, rfl, ho, hb⟩
  have HO := Lib.hid ho
  clear ho
  obtain ⟨hc, hf, hz⟩ := bcell hb
  have hz' : w.heap.size + 3 ≤ w1.heap.size := by simp at hz; omega
  have hq3 := cell_alloc3 w
  have hq4 := cell_alloc3b w
  have ta0 : w1.cell? ⟨w.heap.size, 0, none⟩ = some (.slice A ln.length c) := by rw [hc _ _ (by simp; omega), hq3]; simp
  have ta1 : w1.cell? ⟨w.heap.size, 1, none⟩ = some (.slice P lp.length d) := by rw [hc _ _ (by simp; omega), hq3]; simp
  have tr0 : w1.cell? ⟨w.heap.size + 1, 0, none⟩ = some (.slice none 0 0) := by rw [hc _ _ (by first | (simp; done) | (simp; omega)), hq4]; simp
  have tr1 : w1.cell? ⟨w.heap.size + 1, 1, none⟩ = some (.slice none 0 0) := by rw [hc _ _ (by first | (simp; done) | (simp; omega)), hq4]; simp
  have to0 : w1.cell? ⟨w.heap.size + 1 + 1, 0, none⟩ = some (.slice none 0 0) := by rw [hc _ _ (by first | (simp; done) | (simp; omega))]; exact (blk_alloc3 w _ _ _ _).cell _
  have to1 : w1.cell? ⟨w.heap.size + 1 + 1, 1, none⟩ = some (.slice none 0 0) := by rw [hc _ _ (by first | (simp; done) | (simp; omega))]; exact (blk_alloc3 w _ _ _ _).cell _
  have fr : ∀ o, w1.frozen? ⟨w.heap.size + 1, o, none⟩ = false := fun o => by rw [hf _ _ (by first | (simp; done) | (simp; omega)), frozen_alloc3b]; simp
  have fo : ∀ o, w1.frozen? ⟨w.heap.size + 1 + 1, o, none⟩ = false := fun o => by rw [hf _ _ (by first | (simp; done) | (simp; omega))]; exact (blk_alloc3 w _ _ _ _).frozen _
  have GB := Lib.hid (Below.trans (show Below w.heap.size w _ by exact (by repeat (first | exact Below.refl _ _ | assumption | refine Below.drew ?_ | refine belN ?_ _ | refine Below.alloc ?_ (by first | exact Nat.le_refl _ | (simp; done) | (simp; omega) | omega) _ | refine Below.setCell ?_ (by first | exact Nat.le_refl _ | (simp; done) | (simp; omega) | omega) _ | refine Below.trans ?_ (Below.mono (by assumption) (by first | exact Nat.le_refl _ | (simp; done) | (simp; omega) | omega))))) (Below.mono hb (by simp; omega)))
  clear hc hf hz hb hq3 hq4
  go_wp2_with fail
  refine (toNMsgS_any P lp.length d lp _ ?_ hpn).mono ?_
  · refine RdL.more (B := w.heap.size) ?_ (by first | (simp; done) | (simp; omega))
    refine RdL.below (B' := w.heap.size) HP.out ?_ (Nat.le_refl _)
    (repeat (first | with_reducible refine Below.setCell ?_ (by first | exact Nat.le_refl _ | (simp; done) | (simp; omega)) _ | with_reducible refine Below.alloc ?_ (by first | exact Nat.le_refl _ | (simp; done) | (simp; omega)) _ | with_reducible refine Below.drew ?_)); (with_reducible exact GB.out)
  intro e w2 h
  obtain ⟨P1, d1, rfl, hown, hr, hb⟩ := h.get HP.out.1
  obtain ⟨P2, d2, he, ho⟩ := OwnL.of_own HP.out.1 hown
  simp only [Value.slice.injEq, true_and] at he
  obtain ⟨rfl, rfl⟩ := he
  have HOP := Lib.hid ho
  have hs2 : w1.heap.size ≤ w2.heap.size := by have := hb.size; simpa using this
  have C2 : Hid (Chg w.heap.size (w.heap.size + 3) w1 w2) := by
    refine Chg.below_trans ?_ hb
    (repeat (first | with_reducible refine Chg.setCell ?_ (by first | exact Nat.le_refl _ | (simp; done) | (simp; omega)) (by first | (simp; done) | (simp; omega)) _ | with_reducible refine Chg.alloc ?_ _ | with_reducible refine Chg.drew ?_)); (with_reducible exact Chg.refl _ _ _)
  have hx0 : w.heap.size < w1.heap.size := by omega
  have hx1 : w.heap.size + 1 < w1.heap.size := by omega
  have hx2 : w.heap.size + 1 + 1 < w1.heap.size := by omega
  obtain ⟨hc, hf, hz⟩ := bcell hb
  have ua1 : w2.cell? ⟨w.heap.size, 1, none⟩ = some (.slice P lp.length d) := by rw [hc _ _ (by first | (simp; done) | (simp; omega))]; go_simp
  have ur0 : w2.cell? ⟨w.heap.size + 1, 0, none⟩ = some (.slice none 0 0) := by rw [hc _ _ (by first | (simp; done) | (simp; omega))]; go_simp
  have ur1 : w2.cell? ⟨w.heap.size + 1, 1, none⟩ = some (.slice none 0 0) := by rw [hc _ _ (by first | (simp; done) | (simp; omega))]; go_simp
  have uo0 : w2.cell? ⟨w.heap.size + 1 + 1, 0, none⟩ = some (.slice A1 ln.length c1) := by rw [hc _ _ (by first | (simp; done) | (simp; omega))]; go_simp
  have uo1 : w2.cell? ⟨w.heap.size + 1 + 1, 1, none⟩ = some (.slice none 0 0) := by rw [hc _ _ (by first | (simp; done) | (simp; omega))]; go_simp
  have vr : ∀ o, w2.frozen? ⟨w.heap.size + 1, o, none⟩ = false := fun o => by rw [hf _ _ (by first | (simp; done) | (simp; omega))]; go_simp
  have vo : ∀ o, w2.frozen? ⟨w.heap.size + 1 + 1, o, none⟩ = false := fun o => by rw [hf _ _ (by first | (simp; done) | (simp; omega))]; go_simp
  have GB2 : Hid (Below w.heap.size w w2) := by
    refine Below.trans ?_ (Below.mono hb (by first | (simp; done) | (simp; omega)))
    (repeat (first | with_reducible refine Below.setCell ?_ (by first | exact Nat.le_refl _ | (simp; done) | (simp; omega)) _ | with_reducible refine Below.alloc ?_ (by first | exact Nat.le_refl _ | (simp; done) | (simp; omega)) _ | with_reducible refine Below.drew ?_)); (with_reducible exact GB.out)
  clear hc hf hz hb h hown hr ho ta0 ta1 tr0 tr1 to0 to1 fr fo
  go_wp2
  refine bodyPost_ret (v := .agg #[.slice A1 ln.length c1, .slice P1 lp.length d1]) (by simp [results, Try.results18, go_sem, ur0, ur1]) rfl ⟨A1, c1, P1, d1, w1.heap.size, rfl, by omega, by simp; omega, ?_, ?_, ?_⟩
  · refine ((HO.out.chg C2.out (.inr (by simp))).chg (lo' := w.heap.size) (hi' := w.heap.size + 3) ?_ (.inr (by simp))).wide (by simp; omega) (by simp)
    (repeat (first | with_reducible refine Chg.setCell ?_ (by first | exact Nat.le_refl _ | (simp; done) | (simp; omega)) (by first | (simp; done) | (simp; omega)) _ | with_reducible refine Chg.alloc ?_ _ | with_reducible refine Chg.drew ?_)); (with_reducible exact Chg.refl _ _ _)
  · refine (HOP.out.chg (lo' := w.heap.size) (hi' := w.heap.size + 3) ?_ (.inr (by simp; omega))).wide (by simp) (by simp)
    (repeat (first | with_reducible refine Chg.setCell ?_ (by first | exact Nat.le_refl _ | (simp; done) | (simp; omega)) (by first | (simp; done) | (simp; omega)) _ | with_reducible refine Chg.alloc ?_ _ | with_reducible refine Chg.drew ?_)); (with_reducible exact Chg.refl _ _ _)
  · (repeat (first | with_reducible refine Below.setCell ?_ (by first | exact Nat.le_refl _ | (simp; done) | (simp; omega)) _ | with_reducible refine Below.alloc ?_ (by first | exact Nat.le_refl _ | (simp; done) | (simp; omega)) _ | with_reducible refine Below.drew ?_)); (with_reducible exact GB2.out)
theorem markNet_any (A : Option Addr) (n c : Nat) (ln : List NodeD) (P : Option Addr) (p d : Nat) (lp : List NMsgD) (lo mid hi k : Nat) (w : World) (h : NodesOwn w lo mid A n c ln) (hp : OwnL msgC 5 49 w mid hi P p d lp)
    (h1 : lo ≤ mid) (h2 : mid ≤ hi) (hh : hi ≤ w.heap.size) (hk0 : 0 < k) (hn : n ≤ 1048576) (hk : k + szND ln ≤ 10000000) (hpn : p ≤ 2097152) :
    Calls Try.prog 14 #[.agg #[.slice A n c, .slice P p d], .int .i64 k] w fun e w' => (∃ r : Nat, e = .returned (.int .i64 r)) ∧ Chg lo hi w w' := by
  have H := Lib.hid h
  have HP := Lib.hid hp
  clear h hp
  go_enter Try.func14, Try.ntmps14
  go_wp2_with fail
  refine (markNodeS_any A n c ln lo mid k _ (by exact H.out.chg ((Chg.refl 0 0 w).alloc _) (.inr (Nat.zero_le _))) hk0 hn hk).mono ?_
  rintro e w1 ⟨rfl, hc, _⟩
  have s1 : w1.cell? ⟨w.heap.size, 1, none⟩ = some (.slice P p d) := by rw [hc.cell (k := w.heap.size) (by simp) (.inr (by omega))]; simp
  have HC := Lib.hid ((((Chg.refl lo mid w).alloc _)).trans hc)
  have HP1 := Lib.hid (HP.out.chg HC.out (.inr (Nat.le_refl _)))
  clear hc
  go_wp2_with fail
  refine (markNMsgS_any 49 P p d lp mid hi (k + szND ln) _ HP1.out (by omega) hpn (by omega)).mono ?_
  rintro e w2 ⟨rfl, _, hg⟩
  have HG := Lib.hid hg
  clear hg
  go_wp2_with fail
  go_ret
  exact ⟨⟨_, rfl⟩, (HC.out.wide (Nat.le_refl _) h2).trans (HG.out.wide h1 (Nat.le_refl _))⟩
end Go.Proofs.Ytjgaelnonacdkaa
