/- l16Skip of the reference. -/
import Derived.Test.YtmpppmeloieamaaRunDecide
import Derived.WalkKit
import Derived.WalkSpells
import Derived.WalkLawsBesides
import Derived.Lib.Hide
namespace Go.Proofs.Ytmpppmeloieamaa
open Go.RowKit

def atB (r f : Int) (m : NMsgD) : Bool := m.f == f && m.r == r
def hasAt (l : List NMsgD) (r f : Int) : Bool := l.any (atB r f)
def cnt4 (l : List NMsgD) (r : Int) (k : Nat) : Nat := ((List.range k).filter fun j : Nat => hasAt l r ((j : Int) + 1)).length
theorem cnt4_yes {l : List NMsgD} {r : Int} {k : Nat} (h : hasAt l r ((k : Int) + 1) = true) : cnt4 l r (k + 1) = cnt4 l r k + 1 := by
  unfold cnt4; rw [List.range_succ, List.filter_append]; simp [h]
theorem cnt4_no {l : List NMsgD} {r : Int} {k : Nat} (h : hasAt l r ((k : Int) + 1) = false) : cnt4 l r (k + 1) = cnt4 l r k := by
  unfold cnt4; rw [List.range_succ, List.filter_append]; simp [h]
theorem cnt4_le (l : List NMsgD) (r : Int) (k : Nat) : cnt4 l r k ≤ k := by
  unfold cnt4
  have := List.length_filter_le (fun j : Nat => hasAt l r ((j : Int) + 1)) (List.range k)
  rwa [List.length_range] at this
theorem fromsAt_nodup (l : List NMsgD) (r : Int) : ∀ fs : List Int, fs.Nodup → (l.foldl (rStep r) fs).Nodup := by
  induction l with
  | nil => exact fun fs h => h
  | cons m l ih =>
    intro fs h
    rw [List.foldl_cons]
    refine ih _ ?_
    unfold rStep
    split
    · rename_i hc
      simp only [Bool.and_eq_true, Bool.not_eq_true'] at hc
      rw [List.nodup_append]
      refine ⟨h, by simp, fun a ha b hb => ?_⟩
      simp only [List.mem_singleton] at hb
      subst hb
      intro e
      subst e
      have := (hasI_iff fs _).2 ha
      rw [this] at hc
      exact absurd hc.2 (by simp)
    · exact h
theorem fromsAt_mem (l : List NMsgD) (r f : Int) : ∀ fs : List Int, f ∈ l.foldl (rStep r) fs ↔ f ∈ fs ∨ ∃ m ∈ l, m.r = r ∧ m.f = f := by
  induction l with
  | nil => intro fs; simp
  | cons m l ih =>
    intro fs
    rw [List.foldl_cons, ih]
    have e : f ∈ rStep r fs m ↔ f ∈ fs ∨ (m.r = r ∧ m.f = f) := by
      unfold rStep
      split
      · rename_i hc
        simp only [Bool.and_eq_true, beq_iff_eq] at hc
        rw [List.mem_append, List.mem_singleton]
        constructor
        · rintro (h | h)
          · exact .inl h
          · exact .inr ⟨hc.1, h.symm⟩
        · rintro (h | h)
          · exact .inl h
          · exact .inr h.2.symm
      · rename_i hc
        constructor
        · exact .inl
        · rintro (h | ⟨h1, h2⟩)
          · exact h
          · have h3 : hasI fs m.f = true := by
              cases h4 : hasI fs m.f
              · exact absurd (by rw [h1, h4]; simp) hc
              · rfl
            rw [hasI_iff] at h3
            rw [← h2]; exact h3
    rw [e]
    constructor
    · rintro ((h | h) | ⟨x, hx, h⟩)
      · exact .inl h
      · exact .inr ⟨m, by simp, h⟩
      · exact .inr ⟨x, by simp [hx], h⟩
    · rintro (h | ⟨x, hx, h⟩)
      · exact .inl (.inl h)
      · rcases List.mem_cons.1 hx with rfl | hx
        · exact .inl (.inr h)
        · exact .inr ⟨x, hx, h⟩
theorem hasAt_iff (l : List NMsgD) (r f : Int) : hasAt l r f = true ↔ f ∈ fromsAt l r := by
  unfold fromsAt
  rw [fromsAt_mem]
  unfold hasAt atB
  rw [List.any_eq_true]
  simp only [Bool.and_eq_true, beq_iff_eq, List.not_mem_nil, false_or]
  exact ⟨fun ⟨m, h1, h2, h3⟩ => ⟨m, h1, h3, h2⟩, fun ⟨m, h1, h2, h3⟩ => ⟨m, h1, h3, h2⟩⟩
theorem froms_cnt {l : List NMsgD} (hl : msgsOk l = true) (r : Int) : (fromsAt l r).length = cnt4 l r 4 := by
  have hm : ∀ f ∈ fromsAt l r, 1 ≤ f ∧ f ≤ 4 := fun f hf => by
    unfold fromsAt at hf
    rw [fromsAt_mem] at hf
    rcases hf with h | ⟨m, hm, _, h⟩
    · cases h
    · have := ((okMsg_iff m).1 (msgsOk_mem hl hm)).2.2.1
      rw [h] at this; exact this
  have hp : List.Perm (fromsAt l r) (((List.range 4).filter fun j : Nat => hasAt l r ((j : Int) + 1)).map fun j : Nat => (j : Int) + 1) := by
    refine (List.perm_ext_iff_of_nodup (fromsAt_nodup l r [] List.nodup_nil) ?_).2 fun a => ?_
    · refine List.Pairwise.map _ ?_ (List.Pairwise.filter _ List.nodup_range)
      intro a b hab e
      exact hab (by omega)
    · rw [List.mem_map]
      constructor
      · intro ha
        have h1 := hm a ha
        refine ⟨(a - 1).toNat, ?_, by omega⟩
        rw [List.mem_filter, List.mem_range]
        refine ⟨by omega, ?_⟩
        rw [show (((a - 1).toNat : Nat) : Int) + 1 = a by omega]
        exact (hasAt_iff l r a).2 ha
      · rintro ⟨j, hj, rfl⟩
        rw [List.mem_filter] at hj
        exact (hasAt_iff l r _).1 hj.2
  rw [hp.length_eq, List.length_map]; rfl
theorem any_next {l : List NMsgD} {f : NMsgD → Bool} {k : Nat} {p : NMsgD} (h : l[k]? = some p) : (l.take (k + 1)).any f = ((l.take k).any f || f p) := by
  rw [List.take_add_one, h, List.any_append]; simp

set_option maxRecDepth 100000 in
set_option maxHeartbeats 8000000 in
theorem l16Skip_any (P : Nat → Prop) (A : Option Addr) (c : Nat) (B : Option Addr) (d : Nat) (x : RunS) (w : World) (hx : Rows w P A c B d x) (hl : x.l.length ≤ 1000) (ho : x.o.length ≤ 1000) (hok : msgsOk x.l = true)
    (hr0 : -1 ≤ x.s.round) (hr1 : x.s.round ≤ 11) (hme : 1 ≤ x.s.me ∧ x.s.me ≤ 4) (hvr : -1 ≤ x.s.vr) :
    Calls Try.prog 78 #[runV x A c B d] w (RunOutB P A c B d (skipR x) (skipTo x.l x.s.round).isSome w) := by
  have HR := Lib.hid hx
  have HOK := Lib.hid hok
  have hcm := hx.rl.2.2.2.1
  unfold maxLen at hcm
  clear hx hok
  unfold runV
  go_enter Try.func78, Try.ntmps78
  go_upto_region 1 with fail
  obtain ⟨w2, hw2⟩ : ∃ q, q = (w.alloc (.cells #[.int .i64 x.s.me, .int .i64 x.s.round, .int .i64 x.s.step, .int .i64 x.s.lv, .int .i64 x.s.lr, .int .i64 x.s.vv, .int .i64 x.s.vr, .int .i64 x.s.polka, .int .i64 x.s.dec, .slice A x.l.length c, .slice B x.o.length d] 58)).alloc (.cells #[.int .i64 0, .int .i64 0, .int .i64 0, .int .i64 0, .int .i64 0, .int .i64 0, .int .i64 0, .int .i64 0, .int .i64 0, .slice none 0 0, .slice none 0 0] 58) := ⟨_, rfl⟩
  rw [← hw2]
  have HX2 : Hid (RunAt w2 (fun q => P q ∨ q = w.heap.size + 1) w.heap.size A c B d x) := by show RunAt _ _ _ _ _ _ _ _; rw [hw2]; exact (run_open HR.out).1
  have HZ2 : Hid (Blk w2 (w.heap.size + 1) 58 #[.int .i64 0, .int .i64 0, .int .i64 0, .int .i64 0, .int .i64 0, .int .i64 0, .int .i64 0, .int .i64 0, .int .i64 0, .slice none 0 0, .slice none 0 0]) := by show Blk _ _ _ _; rw [hw2]; exact (run_open HR.out).2.1
  have HK2 : Hid (Keep P w w2) := by show Keep _ _ _; rw [hw2]; exact (run_open HR.out).2.2
  have hnb : ¬ P w.heap.size := fun h => by have := HR.out.lt _ h; omega
  have hnz : ¬ P (w.heap.size + 1) := fun h => by have := HR.out.lt _ h; omega
  have hne : w.heap.size + 1 ≠ w.heap.size := by omega
  clear hw2
  have tb := HX2.out.cells
  have tbf := HX2.out.free
  have tz := HZ2.out.cell
  have tzf := HZ2.out.frozen
  have hltb := HX2.out.lt
  have hltz := HZ2.out.lt
  have HRL := Lib.hid HX2.out.rows.rl
  go_wp2_with fail
  go_loop [4] (fun t => ∃ r : Int, t = .int .i64 r ∧ x.s.round ≤ r ∧ r ≤ 11 ∧ ∀ q, r < q → q ≤ 11 → twoAt x.l q = false) (fun t => (intOf t + 1).toNat)
  case atStart => exact ⟨11, rfl, hr1, Int.le_refl _, fun q a b => by omega⟩
  case round =>
    obtain ⟨r, rfl, hr2, hr3, hq⟩ := hrel
    have HQ := Lib.hid hq
    clear hq
    by_cases hlast : x.s.round < r
    · go_wp2_with fail
      go_loop [5, 6] (fun n f => ∃ k : Nat, k ≤ 4 ∧ f = .int .i64 ((k : Int) + 1) ∧ n = .int .i64 (cnt4 x.l r k)) (fun _ f => (5 - intOf f).toNat)
      case atStart => exact ⟨0, by omega, rfl, rfl⟩
      case round =>
        obtain ⟨k, hk, rfl, rfl⟩ := hrel
        have hcl := cnt4_le x.l r k
        by_cases hk4 : k < 4
        · have hk4' : (k : Int) + 1 ≤ 4 := by omega
          go_wp2_with fail
          go_loop [7, 8] (fun b i => ∃ j : Nat, j ≤ x.l.length ∧ i = .int .i64 j ∧ b = .bool ((x.l.take j).any (atB r ((k : Int) + 1)))) (fun _ i => x.l.length - (intOf i).toNat)
          case atStart => exact ⟨0, by omega, rfl, rfl⟩
          case round =>
            obtain ⟨j, hj, rfl, rfl⟩ := hrel
            by_cases hjn : j < x.l.length
            · obtain ⟨b, off, p, rfl, hb1, hp, c0, c1, c2, c3, c4⟩ := msg_cells HRL.out hjn
              have HN := Lib.hid (any_next (f := atB r ((k : Int) + 1)) hp)
              have hjc : ((j : Nat) : Int) < x.l.length := by omega
              clear hp c0 c2 c3
              cases g0 : (x.l.take j).any (atB r ((k : Int) + 1))
              · cases g1 : (p.f == (k : Int) + 1)
                · have HA : Hid (atB r ((k : Int) + 1) p = false) := by show _ = _; unfold atB; rw [g1]; rfl
                  go_wp2
                  go_round
                  case rel => exact ⟨j + 1, by omega, by go_num, by rw [HN.out, g0, HA.out]; rfl⟩
                  case measure => simp [intOf]; omega
                · cases g2 : (p.r == r)
                  · have HA : Hid (atB r ((k : Int) + 1) p = false) := by show _ = _; unfold atB; rw [g1, g2]; rfl
                    go_wp2
                    go_round
                    case rel => exact ⟨j + 1, by omega, by go_num, by rw [HN.out, g0, HA.out]; rfl⟩
                    case measure => simp [intOf]; omega
                  · have HA : Hid (atB r ((k : Int) + 1) p = true) := by show _ = _; unfold atB; rw [g1, g2]; rfl
                    go_wp2
                    go_round
                    case rel => exact ⟨j + 1, by omega, by go_num, by rw [HN.out, g0, HA.out]; rfl⟩
                    case measure => simp [intOf]; omega
              · go_wp2
                go_round
                case rel => exact ⟨j + 1, by omega, by go_num, by rw [HN.out, g0]; rfl⟩
                case measure => simp [intOf]; omega
            · obtain rfl : j = x.l.length := by omega
              have HH : Hid ((x.l.take x.l.length).any (atB r ((k : Int) + 1)) = hasAt x.l r ((k : Int) + 1)) := by show _ = _; rw [List.take_length]; rfl
              rw [HH.out]
              cases g0 : hasAt x.l r ((k : Int) + 1)
              · have HC := Lib.hid (cnt4_no g0)
                go_wp2
                go_round
                case rel => exact ⟨k + 1, by omega, by go_num, by rw [HC.out]⟩
                case measure => simp [intOf]; omega
              · have HC := Lib.hid (cnt4_yes g0)
                go_wp2
                go_round
                case rel => exact ⟨k + 1, by omega, by go_num, by rw [HC.out]; go_num⟩
                case measure => simp [intOf]; omega
        · obtain rfl : k = 4 := by omega
          have HF := Lib.hid (froms_cnt HOK.out r)
          cases ht : twoAt x.l r
          · have h2 : ¬ 2 ≤ cnt4 x.l r 4 := by unfold twoAt at ht; rw [decide_eq_false_iff_not, HF.out] at ht; exact ht
            have h2b : cnt4 x.l r 4 < 2 := by omega
            have hq' : Hid (∀ q, r - 1 < q → q ≤ 11 → twoAt x.l q = false) := fun q a b => by
              rcases (by omega : q = r ∨ r < q) with rfl | h
              · exact ht
              · exact HQ.out q h b
            clear ht
            go_wp2_with fail
            go_round
            case rel => exact ⟨r - 1, by go_num, by omega, by omega, hq'.out⟩
            case measure => simp [intOf]; omega
          · have h2 : 2 ≤ cnt4 x.l r 4 := by unfold twoAt at ht; rw [decide_eq_true_eq, HF.out] at ht; exact ht
            have hs := skip_hit hlast (by omega) hr3 ht HQ.out
            have HE : Hid (skipR x = startR x r) := by show _ = _; unfold skipR; rw [hs]
            have HE2 : Hid ((skipTo x.l x.s.round).isSome = true) := by show _ = _; rw [hs]; rfl
            clear ht hs
            go_wp2_with fail
            refine (l16Begin_any (fun q => (P q ∨ q = w.heap.size + 1) ∨ q = w.heap.size) A c B d x r _ HX2.out.rows hl ho (by omega) (by omega) hme hvr).mono ?_
            rintro e w4 ⟨A2, c2, B2, d2, rfl, hr4, hk4⟩
            unfold runV
            clear tz tzf tb
            have HZ4 := Lib.hid (hk4.blk (.inl (.inr rfl)) HZ2.out)
            have tz := HZ4.out.cell
            have tzf := HZ4.out.frozen
            go_wp2_with fail
            rw [HE2.out]
            refine bodyPost_ret (v := .tuple #[runV (startR x r) A2 c2 B2 d2, .bool true]) (by unfold runV; first | (simp [results, Try.results78, go_sem, tz]; done) | (simp [results, Try.results78, go_sem, tz]; repeat' (first | rfl | constructor))) rfl ?_
            refine ⟨A2, c2, B2, d2, by rw [HE.out] <;> rfl, ?_, ?_, fun h => by first | exact ⟨rfl, rfl, rfl, rfl⟩ | cases h⟩
            · rw [HE.out]
              show Rows (fillR w4 (w.heap.size + 1) A2 c2 B2 d2 (startR x r)) P A2 c2 B2 d2 (startR x r)
              exact (fillR_rows hr4 (.inl (.inr rfl))).mono fun q hq => .inl (.inl hq)
            · show Keep P w (fillR w4 (w.heap.size + 1) A2 c2 B2 d2 (startR x r))
              exact fillR_keep (HK2.out.trans (hk4.mono fun q hq => .inl (.inl hq))) hnz
    · have hs : skipTo x.l x.s.round = none := skip_none fun q a b => HQ.out q (by omega) b
      have HE : Hid (skipR x = x) := by show _ = _; unfold skipR; rw [hs]
      have HE2 : Hid ((skipTo x.l x.s.round).isSome = false) := by show _ = _; rw [hs]; rfl
      clear hs
      go_wp2_with fail
      rw [HE2.out]
      refine bodyPost_ret (v := .tuple #[runV x A c B d, .bool false]) (by unfold runV; first | (simp [results, Try.results78, go_sem, tz]; done) | (simp [results, Try.results78, go_sem, tz]; repeat' (first | rfl | constructor))) rfl ?_
      refine ⟨A, c, B, d, by rw [HE.out] <;> rfl, ?_, ?_, fun h => by first | exact ⟨rfl, rfl, rfl, rfl⟩ | cases h⟩
      · rw [HE.out]
        show Rows (fillR w2 (w.heap.size + 1) A c B d x) P A c B d x
        exact (fillR_rows HX2.out.rows (.inl (.inr rfl))).mono fun q hq => .inl (.inl hq)
      · show Keep P w (fillR w2 (w.heap.size + 1) A c B d x)
        exact fillR_keep HK2.out hnz
end Go.Proofs.Ytmpppmeloieamaa
