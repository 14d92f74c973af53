/- ActRest, NodeLaw2, RegNode, RunSkip: joined into one text. -/
import Derived.WalkKit
import Derived.WalkSpells
import Derived.WalkLawsBesides
import Derived.Lib.Hide
import Derived.Test.YtjgaelnonacdkaaMActRule
import Derived.Test.YtjgaelnonacdkaaMMkNMsg
import Derived.Test.YtjgaelnonacdkaaG08
import Derived.Test.YtjgaelnonacdkaaMReg
import Derived.Test.YtjgaelnonacdkaaG22
namespace Go.Proofs.Ytjgaelnonacdkaa
open Go.RowKit

def cellI (w : World) (a : Addr) : Int := match w.cell? a with | some (.int .i64 n) => n | _ => 0
def muOf (w : World) (g : Nat) : Nat := if 0 < cellI w ⟨g, 8, none⟩ then 0 else 1 + ((12 - cellI w ⟨g, 1, none⟩) * 10 + (3 - cellI w ⟨g, 2, none⟩) * 2 + (if cellI w ⟨g, 7, none⟩ = cellI w ⟨g, 1, none⟩ then 0 else 1)).toNat
theorem muOf_eq {w : World} {g : Nat} {t : TypeId} {A B : Option Addr} {c d : Nat} {x : RunS} (h : Blk w g t (actC x A c B d)) : muOf w g = muR x := by
  have h8 : cellI w ⟨g, 8, none⟩ = x.s.dec := by unfold cellI; rw [h.cell]; rfl
  have h1 : cellI w ⟨g, 1, none⟩ = x.s.round := by unfold cellI; rw [h.cell]; rfl
  have h2 : cellI w ⟨g, 2, none⟩ = x.s.step := by unfold cellI; rw [h.cell]; rfl
  have h7 : cellI w ⟨g, 7, none⟩ = x.s.polka := by unfold cellI; rw [h.cell]; rfl
  unfold muOf muR
  rw [h8, h1, h2, h7]
/-- what a call on a node hands back -/
def CallOut (P : Nat → Prop) (r : RunS × Bool) (w : World) (e : Ending) (w' : World) : Prop :=
  ∃ A c B d, e = .returned (.tuple #[.agg #[.int .i64 r.1.s.me, .int .i64 r.1.s.round, .int .i64 r.1.s.step, .int .i64 r.1.s.lv, .int .i64 r.1.s.lr, .int .i64 r.1.s.vv, .int .i64 r.1.s.vr, .int .i64 r.1.s.polka, .int .i64 r.1.s.dec, .slice A r.1.l.length c], .slice B r.1.o.length d, .bool r.2]) ∧ Rows w' P A c B d r.1 ∧ Keep P w w'
theorem rows_keep {P : Nat → Prop} {w w' : World} {A B : Option Addr} {c d : Nat} {x : RunS} {P' : Nat → Prop} (h : Rows w P A c B d x) (hk : Keep P' w w') (ha : ∀ a, A = some a → P' a.block) (hb : ∀ b, B = some b → P' b.block) : Rows w' P A c B d x := by
  refine ⟨(h.la.keep fun g _ _ e => ?_).wide (Nat.le_refl _) hk.size, (h.ob.keep fun g _ _ e => ?_).wide (Nat.le_refl _) hk.size, h.sep, h.pa, h.pb, fun q hq => Nat.lt_of_lt_of_le (h.lt q hq) hk.size⟩
  · cases A with
    | none => cases e
    | some a => simp only [Value.ownBlock, Option.some.injEq] at e; exact hk.block g (e ▸ ha a rfl)
  · cases B with
    | none => cases e
    | some b => simp only [Value.ownBlock, Option.some.injEq] at e; exact hk.block g (e ▸ hb b rfl)

set_option maxRecDepth 100000 in
set_option maxHeartbeats 4000000 in
theorem rest_any (P : Nat → Prop) (g : Nat) (A : Option Addr) (c : Nat) (B : Option Addr) (d : Nat) (x : RunS) (w : World) (hx : ActAt w P g A c B d x) (hP : NodeP x.s x.l) (ho : x.o.length ≤ 700) :
    Calls Try.prog 102 #[.pointer (some ⟨g, 0, none⟩)] w (CallOut P (restR x, true) w) := by
  have HX := Lib.hid hx
  have HP0 := Lib.hid hP
  clear hx hP
  go_enter Try.func102, Try.ntmps102
  go_wp2_with fail
  go_loopw [6] (fun _ wr => ∃ (y : RunS) (A : Option Addr) (c : Nat) (B : Option Addr) (d : Nat), ActAt wr (fun q => P q ∨ q = w.heap.size) g A c B d y ∧
    Blk wr w.heap.size 79 #[.int .i64 0, .int .i64 0, .int .i64 0, .int .i64 0, .int .i64 0, .int .i64 0, .int .i64 0, .int .i64 0, .int .i64 0, .slice none 0 0] ∧
    NodeP y.s y.l ∧ restR y = restR x ∧ y.o.length + muR y ≤ x.o.length + muR x ∧ Keep P w wr) (fun _ wr => muOf wr g)
  case atStart => exact ⟨x, A, c, B, d, HX.out.new _, heap_alloc_new w _, HP0.out, rfl, Nat.le_refl _, (Keep.refl P w).alloc HX.out.ltP _⟩
  case round =>
    obtain ⟨y, A1, c1, B1, d1, ha, hz, hp, hre, hlen, hk⟩ := hrel
    have HA := Lib.hid ha
    have HZ := Lib.hid hz
    have HY := Lib.hid hp
    have HE := Lib.hid hre
    have HK := Lib.hid hk
    have HLen := Lib.hid hlen
    have hmu := mu_le HP0.out
    have hyo : y.o.length ≤ 900 := by omega
    have hmuE := Lib.hid (muOf_eq ha.blk)
    clear ha hz hp hre hlen hk hmu
    cases hr : ruleR y with
    | none =>
      have HR := Lib.hid hr
      have H1 : Hid ((ruleR y).getD y = y) := by show _ = _; rw [hr]; rfl
      have H2 : Hid ((ruleR y).isSome = false) := by show _ = _; rw [hr]; rfl
      clear hr
      go_wp2_with fail
      refine (rule_any _ g A1 c1 B1 d1 y _ HA.out HY.out hyo).mono ?_
      rw [H1.out, H2.out]
      rintro e w2 ⟨A2, c2, B2, d2, rfl, ha2, hk2⟩
      have HA2 := Lib.hid ha2
      have HZ2 := Lib.hid (hk2.blk (.inr rfl) HZ.out)
      have HK2 := Lib.hid (HK.out.trans (hk2.mono fun q hq => .inl hq))
      have HRY : Hid (restR x = y) := by show _ = _; rw [← HE.out, restR_none HR.out]
      clear ha2 hk2
      have tg := HA2.out.cells
      have tz := HZ2.out.cell
      have tzf := HZ2.out.frozen
      have hltg := HA2.out.lt
      have hltz := HZ2.out.lt
      have hnz : ¬ P w.heap.size := fun h => by have := HX.out.ltP _ h; omega
      have hgz : g ≠ w.heap.size := by have := HX.out.lt; omega
      go_upto_region 2 with fail
      go_region
      all_goals
        go_wp2
        refine bodyPost_ret (v := .tuple #[.agg #[.int .i64 y.s.me, .int .i64 y.s.round, .int .i64 y.s.step, .int .i64 y.s.lv, .int .i64 y.s.lr, .int .i64 y.s.vv, .int .i64 y.s.vr, .int .i64 y.s.polka, .int .i64 y.s.dec, .slice A2 y.l.length c2], .slice B2 y.o.length d2, .bool true]) (by simp [results, Try.results102, go_sem, tz]) rfl ⟨A2, c2, B2, d2, by rw [HRY.out], ?_, ?_⟩
        · rw [HRY.out]
          refine Rows.mono (P := fun q => (P q ∨ q = w.heap.size) ∨ q = g) ?_ fun q hq => .inl (.inl hq)
          repeat with_reducible first | refine Rows.keeps ?_ (.inl (.inr rfl)) _ | refine Rows.drew ?_
          with_reducible exact HA2.out.rows
        · repeat with_reducible first | refine Keep.setCell ?_ hnz _ | refine Keep.drew ?_
          with_reducible exact HK2.out
    | some z =>
      have HR := Lib.hid hr
      have H1 : Hid ((ruleR y).getD y = z) := by show _ = _; rw [hr]; rfl
      have H2 : Hid ((ruleR y).isSome = true) := by show _ = _; rw [hr]; rfl
      have HRO := Lib.hid (rule_ok HY.out hr)
      clear hr
      go_wp2_with fail
      refine (rule_any _ g A1 c1 B1 d1 y _ HA.out HY.out hyo).mono ?_
      rw [H1.out, H2.out]
      rintro e w2 ⟨A2, c2, B2, d2, rfl, ha2, hk2⟩
      have HA2 := Lib.hid ha2
      have HZ2 := Lib.hid (hk2.blk (.inr rfl) HZ.out)
      have HK2 := Lib.hid (HK.out.trans (hk2.mono fun q hq => .inl hq))
      clear ha2 hk2
      go_wp2_with fail
      go_roundw
      case rel => exact ⟨z, A2, c2, B2, d2, HA2.out, HZ2.out, HRO.out.ok, by rw [← HE.out, restR_some HY.out HR.out], by have h1 := HRO.out.mu; have h2 := HRO.out.out; have h3 := HLen.out; omega, HK2.out⟩
      case measure => rw [muOf_eq HA2.out.blk, hmuE.out]; exact HRO.out.mu
end Go.Proofs.Ytjgaelnonacdkaa
namespace Go.Proofs.Ytjgaelnonacdkaa
open Go.RowKit

/-- the rows that a call hands back, each in a stretch of its own behind what was there -/
theorem Rows.split {w : World} {B0 : Nat} {A B : Option Addr} {c d : Nat} {x : RunS} (h : Rows w (fun q => q < B0) A c B d x) (hB : B0 ≤ w.heap.size) :
    ∃ a1 b1 a2 b2, OwnL msgC 5 49 w a1 b1 A x.l.length c x.l ∧ OwnL msgC 5 49 w a2 b2 B x.o.length d x.o ∧
      B0 ≤ a1 ∧ a1 ≤ b1 ∧ b1 ≤ w.heap.size ∧ B0 ≤ a2 ∧ a2 ≤ b2 ∧ b2 ≤ w.heap.size ∧ (b1 ≤ a2 ∨ b2 ≤ a1) := by
  have one : ∀ (A : Option Addr) (c : Nat) (l : List NMsgD), OwnL msgC 5 49 w 0 w.heap.size A l.length c l → (∀ q a, q < B0 → A = some a → a.block ≠ q) →
      ∃ a1 b1, OwnL msgC 5 49 w a1 b1 A l.length c l ∧ B0 ≤ a1 ∧ a1 ≤ b1 ∧ b1 ≤ w.heap.size ∧ (a1 = b1 ∨ (b1 = a1 + 1 ∧ A = some (⟨a1, 0, Option.none⟩ : Addr))) := by
    intro A c l hl hp
    obtain ⟨h1, h0 | ⟨g, cur, rfl, _, h2, h3⟩⟩ := hl
    · exact ⟨B0, B0, ⟨h1, .inl h0⟩, Nat.le_refl _, Nat.le_refl _, hB, .inl rfl⟩
    · have hg : B0 ≤ g := by
        rcases Nat.lt_or_ge g B0 with hlt | hge
        · exact absurd rfl (hp g _ hlt rfl)
        · exact hge
      exact ⟨g, g + 1, ⟨h1, .inr ⟨g, cur, rfl, Nat.le_refl _, by omega, h3⟩⟩, hg, by omega, h2, .inr ⟨rfl, rfl⟩⟩
  obtain ⟨a1, b1, p1, p2, p3, p4, p5⟩ := one A c x.l h.la h.pa
  obtain ⟨a2, b2, q1, q2, q3, q4, q5⟩ := one B d x.o h.ob h.pb
  rcases p5 with rfl | ⟨rfl, rfl⟩
  · rcases Nat.lt_or_ge a1 b2 with hlt | hge
    · rcases q5 with rfl | ⟨rfl, rfl⟩
      · exact ⟨a1, a1, a2, a2, p1, q1, p2, p3, p4, q2, q3, q4, by omega⟩
      · exact ⟨a1, a1, a2, a2 + 1, p1, q1, p2, p3, p4, q2, q3, q4, by omega⟩
    · exact ⟨a1, a1, a2, b2, p1, q1, p2, p3, p4, q2, q3, q4, .inr hge⟩
  · rcases q5 with rfl | ⟨rfl, rfl⟩
    · exact ⟨a1, a1 + 1, a2, a2, p1, q1, p2, p3, p4, q2, q3, q4, by omega⟩
    · have := h.sep _ _ rfl rfl
      exact ⟨a1, a1 + 1, a2, a2 + 1, p1, q1, p2, p3, p4, q2, q3, q4, by show a1 + 1 ≤ a2 ∨ a2 + 1 ≤ a1; have : a1 ≠ a2 := this; omega⟩



theorem startN_len (s : NodeS) (l : List NMsgD) : (startN s l).1.l.length ≤ 2000 ∧ (startN s l).1.o.length ≤ 2000 := by
  unfold startN
  split
  · rename_i h
    have hp := (nodeB_iff s l).1 h
    split
    · rename_i hr
      rw [beq_iff_eq] at hr
      obtain ⟨a, b⟩ := rest_ok (start_ok (x := ⟨s, l, []⟩) (r := 0) hp (by show s.round < 0; omega) (by decide))
      have h1 := startR_o ⟨s, l, []⟩ 0
      have h2 := a.len
      exact ⟨by show (restR _).l.length ≤ 2000; omega, by show (restR _).o.length ≤ 2000; simp only [List.length_nil] at h1; omega⟩
    · have := hp.len
      exact ⟨by show l.length ≤ 2000; omega, by simp⟩
  · simp
theorem getN_len (s : NodeS) (l : List NMsgD) (m : NMsgD) : (getN s l m).1.l.length ≤ 2000 ∧ (getN s l m).1.o.length ≤ 2000 := by
  unfold getN
  split
  · rename_i h
    have hp := (nodeB_iff s l).1 h
    split
    · have := hp.len
      exact ⟨by show l.length ≤ 2000; omega, by simp⟩
    · rename_i hb
      obtain ⟨a, b⟩ := rest_ok (x := ⟨s, l ++ [m], []⟩) (got_ok hp (by simpa using hb))
      have h2 := a.len
      exact ⟨by show (restR _).l.length ≤ 2000; omega, by show (restR _).o.length ≤ 2000; simp only [List.length_nil] at b; omega⟩
  · simp
theorem timeN_len (s : NodeS) (l : List NMsgD) (k : Int) : (timeN s l k).1.l.length ≤ 2000 ∧ (timeN s l k).1.o.length ≤ 2000 := by
  unfold timeN
  split
  · rename_i h
    have hp := (nodeB_iff s l).1 h
    split
    · have := hp.len
      exact ⟨by show l.length ≤ 2000; omega, by simp⟩
    · rename_i hb
      obtain ⟨h1, h2, h3, h4⟩ := time_ok hp (by simpa using hb)
      have hs := hp.step
      have hr := hp.round
      have main : NodeP (timeR ⟨s, l, []⟩ k).s (timeR ⟨s, l, []⟩ k).l ∧ (timeR ⟨s, l, []⟩ k).o.length ≤ 1 := by
        unfold timeR
        split
        · exact ⟨prevote_ok (x := ⟨s, l, []⟩) (v := 0) hp h2 (by decide), by simp [prevoteR, setStep, sendR]⟩
        · rename_i e1
          split
          · exact ⟨precommit_ok (x := ⟨s, l, []⟩) (v := 0) hp h2 (by decide), by simp [precommitR, setStep, sendR]⟩
          · rename_i e2
            rw [beq_iff_eq] at e1 e2
            refine ⟨start_ok (x := ⟨s, l, []⟩) hp (by show s.round < s.round + 1; omega) (by show s.round + 1 ≤ 11; have := h4 (by omega); omega), ?_⟩
            have := startR_o ⟨s, l, []⟩ (s.round + 1)
            simpa using this
      obtain ⟨a, b⟩ := rest_ok main.1
      have h2' := a.len
      have h3' := main.2
      exact ⟨by show (restR _).l.length ≤ 2000; omega, by show (restR _).o.length ≤ 2000; omega⟩
  · simp
end Go.Proofs.Ytjgaelnonacdkaa
namespace Go.Proofs.Ytjgaelnonacdkaa
open Go.RowKit

theorem getk' {b : Act} {dd : Option Nat} {v : Value} {s : Nat} {X : Value} (h : b.tmps.getD s undef = X) (hd : dd ≠ some s) : (b.put dd v).tmps.getD s undef = X := by
  cases dd with
  | none => exact h
  | some d => exact (put_getD_ne b d s v (fun e => hd (by rw [e]))).trans h
theorem Rows.turn' {P : Nat → Prop} {w w' : World} {A B : Option Addr} {c d : Nat} {x : RunS} (h : Rows w P A c B d x) (hE : BoxTurn 79 w w') : Rows w' P A c B d x :=
  ⟨hE.row (by decide) h.la, hE.row (by decide) h.ob, h.sep, h.pa, h.pb, fun q hp => Nat.lt_of_lt_of_le (h.lt q hp) hE.size⟩
theorem Rows.chg {P : Nat → Prop} {w w' : World} {A B : Option Addr} {c d lo hi : Nat} {x : RunS} (h : Rows w P A c B d x) (hc : Chg lo hi w w') (hp : ∀ q, lo ≤ q → q < hi → P q) : Rows w' P A c B d x := by
  have key : ∀ (C : Option Addr) (n e : Nat) (l : List NMsgD), (∀ q a, P q → C = some a → a.block ≠ q) → OwnL msgC 5 49 w 0 w.heap.size C n e l → OwnL msgC 5 49 w' 0 w'.heap.size C n e l := by
    intro C n e l hC ho
    refine OwnL.wide (ho.keep fun g _ hlt eg => hc.block g hlt ?_) (Nat.le_refl _) hc.size
    cases C with
    | none => cases eg
    | some a =>
      simp only [Value.ownBlock, Option.some.injEq] at eg
      by_cases h1 : lo ≤ g
      · by_cases h2 : g < hi
        · exact absurd eg (hC g a (hp g h1 h2) rfl)
        · exact .inr (by omega)
      · exact .inl (by omega)
  exact ⟨key _ _ _ _ h.pa h.la, key _ _ _ _ h.pb h.ob, h.sep, h.pa, h.pb, fun q hq => Nat.lt_of_lt_of_le (h.lt q hq) hc.size⟩
/-- the rows of a call lie behind what was kept -/
theorem Rows.msgs {w : World} {B0 : Nat} {A B : Option Addr} {c d : Nat} {x : RunS} (h : Rows w (fun q => q < B0) A c B d x) (hB : B0 ≤ w.heap.size) : OwnL msgC 5 49 w B0 w.heap.size A x.l.length c x.l := by
  obtain ⟨a1, b1, a2, b2, o1, _, p1, _, p3, _⟩ := h.split hB
  exact o1.wide p1 p3
theorem Rows.sent {w : World} {B0 : Nat} {A B : Option Addr} {c d : Nat} {x : RunS} (h : Rows w (fun q => q < B0) A c B d x) (hB : B0 ≤ w.heap.size) : OwnL msgC 5 49 w B0 w.heap.size B x.o.length d x.o := by
  obtain ⟨a1, b1, a2, b2, _, o2, _, _, _, p4, _, p6, _⟩ := h.split hB
  exact o2.wide p4 p6
end Go.Proofs.Ytjgaelnonacdkaa
namespace Go.Proofs.Ytjgaelnonacdkaa
open Go.RowKit

def atB (r f : Int) (m : NMsgD) : Bool := m.f == f && m.r == r
def hasAt (l : List NMsgD) (r f : Int) : Bool := l.any (atB r f)
def cnt4 (l : List NMsgD) (r : Int) (k : Nat) : Nat := ((List.range k).filter fun j : Nat => hasAt l r ((j : Int) + 1)).length
theorem cnt4_yes {l : List NMsgD} {r : Int} {k : Nat} (h : hasAt l r ((k : Int) + 1) = true) : cnt4 l r (k + 1) = cnt4 l r k + 1 := by
  unfold cnt4; rw [List.range_succ, List.filter_append]; simp [h]
theorem cnt4_no {l : List NMsgD} {r : Int} {k : Nat} (h : hasAt l r ((k : Int) + 1) = false) : cnt4 l r (k + 1) = cnt4 l r k := by
  unfold cnt4; rw [List.range_succ, List.filter_append]; simp [h]
theorem cnt4_le (l : List NMsgD) (r : Int) (k : Nat) : cnt4 l r k ≤ k := by
  unfold cnt4
  have := List.length_filter_le (fun j : Nat => hasAt l r ((j : Int) + 1)) (List.range k)
  rwa [List.length_range] at this
theorem fromsAt_nodup (l : List NMsgD) (r : Int) : ∀ fs : List Int, fs.Nodup → (l.foldl (rStep r) fs).Nodup := by
  induction l with
  | nil => exact fun fs h => h
  | cons m l ih =>
    intro fs h
    rw [List.foldl_cons]
    refine ih _ ?_
    unfold rStep
    split
    · rename_i hc
      simp only [Bool.and_eq_true, Bool.not_eq_true'] at hc
      rw [List.nodup_append]
      refine ⟨h, by simp, fun a ha b hb => ?_⟩
      simp only [List.mem_singleton] at hb
      subst hb
      intro e
      subst e
      have := (hasI_iff fs _).2 ha
      rw [this] at hc
      exact absurd hc.2 (by simp)
    · exact h
theorem fromsAt_mem (l : List NMsgD) (r f : Int) : ∀ fs : List Int, f ∈ l.foldl (rStep r) fs ↔ f ∈ fs ∨ ∃ m ∈ l, m.r = r ∧ m.f = f := by
  induction l with
  | nil => intro fs; simp
  | cons m l ih =>
    intro fs
    rw [List.foldl_cons, ih]
    have e : f ∈ rStep r fs m ↔ f ∈ fs ∨ (m.r = r ∧ m.f = f) := by
      unfold rStep
      split
      · rename_i hc
        simp only [Bool.and_eq_true, beq_iff_eq] at hc
        rw [List.mem_append, List.mem_singleton]
        constructor
        · rintro (h | h)
          · exact .inl h
          · exact .inr ⟨hc.1, h.symm⟩
        · rintro (h | h)
          · exact .inl h
          · exact .inr h.2.symm
      · rename_i hc
        constructor
        · exact .inl
        · rintro (h | ⟨h1, h2⟩)
          · exact h
          · have h3 : hasI fs m.f = true := by
              cases h4 : hasI fs m.f
              · exact absurd (by rw [h1, h4]; simp) hc
              · rfl
            rw [hasI_iff] at h3
            rw [← h2]; exact h3
    rw [e]
    constructor
    · rintro ((h | h) | ⟨x, hx, h⟩)
      · exact .inl h
      · exact .inr ⟨m, by simp, h⟩
      · exact .inr ⟨x, by simp [hx], h⟩
    · rintro (h | ⟨x, hx, h⟩)
      · exact .inl (.inl h)
      · rcases List.mem_cons.1 hx with rfl | hx
        · exact .inl (.inr h)
        · exact .inr ⟨x, hx, h⟩
theorem hasAt_iff (l : List NMsgD) (r f : Int) : hasAt l r f = true ↔ f ∈ fromsAt l r := by
  unfold fromsAt
  rw [fromsAt_mem]
  unfold hasAt atB
  rw [List.any_eq_true]
  simp only [Bool.and_eq_true, beq_iff_eq, List.not_mem_nil, false_or]
  exact ⟨fun ⟨m, h1, h2, h3⟩ => ⟨m, h1, h3, h2⟩, fun ⟨m, h1, h2, h3⟩ => ⟨m, h1, h3, h2⟩⟩
theorem froms_cnt {l : List NMsgD} (hl : msgsOk l = true) (r : Int) : (fromsAt l r).length = cnt4 l r 4 := by
  have hm : ∀ f ∈ fromsAt l r, 1 ≤ f ∧ f ≤ 4 := fun f hf => by
    unfold fromsAt at hf
    rw [fromsAt_mem] at hf
    rcases hf with h | ⟨m, hm, _, h⟩
    · cases h
    · have := ((okMsg_iff m).1 (msgsOk_mem hl hm)).2.2.1
      rw [h] at this; exact this
  have hp : List.Perm (fromsAt l r) (((List.range 4).filter fun j : Nat => hasAt l r ((j : Int) + 1)).map fun j : Nat => (j : Int) + 1) := by
    refine (List.perm_ext_iff_of_nodup (fromsAt_nodup l r [] List.nodup_nil) ?_).2 fun a => ?_
    · refine List.Pairwise.map _ ?_ (List.Pairwise.filter _ List.nodup_range)
      intro a b hab e
      exact hab (by omega)
    · rw [List.mem_map]
      constructor
      · intro ha
        have h1 := hm a ha
        refine ⟨(a - 1).toNat, ?_, by omega⟩
        rw [List.mem_filter, List.mem_range]
        refine ⟨by omega, ?_⟩
        rw [show (((a - 1).toNat : Nat) : Int) + 1 = a by omega]
        exact (hasAt_iff l r a).2 ha
      · rintro ⟨j, hj, rfl⟩
        rw [List.mem_filter] at hj
        exact (hasAt_iff l r _).1 hj.2
  rw [hp.length_eq, List.length_map]; rfl
theorem any_next {l : List NMsgD} {f : NMsgD → Bool} {k : Nat} {p : NMsgD} (h : l[k]? = some p) : (l.take (k + 1)).any f = ((l.take k).any f || f p) := by
  rw [List.take_add_one, h, List.any_append]; simp

set_option maxRecDepth 100000 in
set_option maxHeartbeats 8000000 in
theorem l16Skip_any (P : Nat → Prop) (A : Option Addr) (c : Nat) (B : Option Addr) (d : Nat) (x : RunS) (w : World) (hx : Rows w P A c B d x) (hl : x.l.length ≤ 1000) (ho : x.o.length ≤ 1000) (hok : msgsOk x.l = true)
    (hr0 : -1 ≤ x.s.round) (hr1 : x.s.round ≤ 11) (hme : 1 ≤ x.s.me ∧ x.s.me ≤ 4) (hvr : -1 ≤ x.s.vr) :
    Calls Try.prog 136 #[runV x A c B d] w (RunOutB P A c B d (skipR x) (skipTo x.l x.s.round).isSome w) := by
  have HR := Lib.hid hx
  have HOK := Lib.hid hok
  have hcm := hx.rl.2.2.2.1
  unfold maxLen at hcm
  clear hx hok
  unfold runV
  go_enter Try.func136, Try.ntmps136
  go_upto_region 1 with fail
  obtain ⟨w2, hw2⟩ : ∃ q, q = (w.alloc (.cells #[.int .i64 x.s.me, .int .i64 x.s.round, .int .i64 x.s.step, .int .i64 x.s.lv, .int .i64 x.s.lr, .int .i64 x.s.vv, .int .i64 x.s.vr, .int .i64 x.s.polka, .int .i64 x.s.dec, .slice A x.l.length c, .slice B x.o.length d] 120)).alloc (.cells #[.int .i64 0, .int .i64 0, .int .i64 0, .int .i64 0, .int .i64 0, .int .i64 0, .int .i64 0, .int .i64 0, .int .i64 0, .slice none 0 0, .slice none 0 0] 120) := ⟨_, rfl⟩
  rw [← hw2]
  have HX2 : Hid (RunAt w2 (fun q => P q ∨ q = w.heap.size + 1) w.heap.size A c B d x) := by show RunAt _ _ _ _ _ _ _ _; rw [hw2]; exact (run_open HR.out).1
  have HZ2 : Hid (Blk w2 (w.heap.size + 1) 120 #[.int .i64 0, .int .i64 0, .int .i64 0, .int .i64 0, .int .i64 0, .int .i64 0, .int .i64 0, .int .i64 0, .int .i64 0, .slice none 0 0, .slice none 0 0]) := by show Blk _ _ _ _; rw [hw2]; exact (run_open HR.out).2.1
  have HK2 : Hid (Keep P w w2) := by show Keep _ _ _; rw [hw2]; exact (run_open HR.out).2.2
  have hnb : ¬ P w.heap.size := fun h => by have := HR.out.lt _ h; omega
  have hnz : ¬ P (w.heap.size + 1) := fun h => by have := HR.out.lt _ h; omega
  have hne : w.heap.size + 1 ≠ w.heap.size := by omega
  clear hw2
  have tb := HX2.out.cells
  have tbf := HX2.out.free
  have tz := HZ2.out.cell
  have tzf := HZ2.out.frozen
  have hltb := HX2.out.lt
  have hltz := HZ2.out.lt
  have HRL := Lib.hid HX2.out.rows.rl
  go_wp2_with fail
  go_loop [4] (fun t => ∃ r : Int, t = .int .i64 r ∧ x.s.round ≤ r ∧ r ≤ 11 ∧ ∀ q, r < q → q ≤ 11 → twoAt x.l q = false) (fun t => (intOf t + 1).toNat)
  case atStart => exact ⟨11, rfl, hr1, Int.le_refl _, fun q a b => by omega⟩
  case round =>
    obtain ⟨r, rfl, hr2, hr3, hq⟩ := hrel
    have HQ := Lib.hid hq
    clear hq
    by_cases hlast : x.s.round < r
    · go_wp2_with fail
      go_loop [5, 6] (fun n f => ∃ k : Nat, k ≤ 4 ∧ f = .int .i64 ((k : Int) + 1) ∧ n = .int .i64 (cnt4 x.l r k)) (fun _ f => (5 - intOf f).toNat)
      case atStart => exact ⟨0, by omega, rfl, rfl⟩
      case round =>
        obtain ⟨k, hk, rfl, rfl⟩ := hrel
        have hcl := cnt4_le x.l r k
        by_cases hk4 : k < 4
        · have hk4' : (k : Int) + 1 ≤ 4 := by omega
          go_wp2_with fail
          go_loop [7, 8] (fun b i => ∃ j : Nat, j ≤ x.l.length ∧ i = .int .i64 j ∧ b = .bool ((x.l.take j).any (atB r ((k : Int) + 1)))) (fun _ i => x.l.length - (intOf i).toNat)
          case atStart => exact ⟨0, by omega, rfl, rfl⟩
          case round =>
            obtain ⟨j, hj, rfl, rfl⟩ := hrel
            by_cases hjn : j < x.l.length
            · obtain ⟨b, off, p, rfl, hb1, hp, c0, c1, c2, c3, c4⟩ := msg_cells HRL.out hjn
              have HN := Lib.hid (any_next (f := atB r ((k : Int) + 1)) hp)
              have hjc : ((j : Nat) : Int) < x.l.length := by omega
              clear hp c0 c2 c3
              cases g0 : (x.l.take j).any (atB r ((k : Int) + 1))
              · cases g1 : (p.f == (k : Int) + 1)
                · have HA : Hid (atB r ((k : Int) + 1) p = false) := by show _ = _; unfold atB; rw [g1]; rfl
                  go_wp2
                  go_round
                  case rel => exact ⟨j + 1, by omega, by go_num, by rw [HN.out, g0, HA.out]; rfl⟩
                  case measure => simp [intOf]; omega
                · cases g2 : (p.r == r)
                  · have HA : Hid (atB r ((k : Int) + 1) p = false) := by show _ = _; unfold atB; rw [g1, g2]; rfl
                    go_wp2
                    go_round
                    case rel => exact ⟨j + 1, by omega, by go_num, by rw [HN.out, g0, HA.out]; rfl⟩
                    case measure => simp [intOf]; omega
                  · have HA : Hid (atB r ((k : Int) + 1) p = true) := by show _ = _; unfold atB; rw [g1, g2]; rfl
                    go_wp2
                    go_round
                    case rel => exact ⟨j + 1, by omega, by go_num, by rw [HN.out, g0, HA.out]; rfl⟩
                    case measure => simp [intOf]; omega
              · go_wp2
                go_round
                case rel => exact ⟨j + 1, by omega, by go_num, by rw [HN.out, g0]; rfl⟩
                case measure => simp [intOf]; omega
            · obtain rfl : j = x.l.length := by omega
              have HH : Hid ((x.l.take x.l.length).any (atB r ((k : Int) + 1)) = hasAt x.l r ((k : Int) + 1)) := by show _ = _; rw [List.take_length]; rfl
              rw [HH.out]
              cases g0 : hasAt x.l r ((k : Int) + 1)
              · have HC := Lib.hid (cnt4_no g0)
                go_wp2
                go_round
                case rel => exact ⟨k + 1, by omega, by go_num, by rw [HC.out]⟩
                case measure => simp [intOf]; omega
              · have HC := Lib.hid (cnt4_yes g0)
                go_wp2
                go_round
                case rel => exact ⟨k + 1, by omega, by go_num, by rw [HC.out]; go_num⟩
                case measure => simp [intOf]; omega
        · obtain rfl : k = 4 := by omega
          have HF := Lib.hid (froms_cnt HOK.out r)
          cases ht : twoAt x.l r
          · have h2 : ¬ 2 ≤ cnt4 x.l r 4 := by unfold twoAt at ht; rw [decide_eq_false_iff_not, HF.out] at ht; exact ht
            have h2b : cnt4 x.l r 4 < 2 := by omega
            have hq' : Hid (∀ q, r - 1 < q → q ≤ 11 → twoAt x.l q = false) := fun q a b => by
              rcases (by omega : q = r ∨ r < q) with rfl | h
              · exact ht
              · exact HQ.out q h b
            clear ht
            go_wp2_with fail
            go_round
            case rel => exact ⟨r - 1, by go_num, by omega, by omega, hq'.out⟩
            case measure => simp [intOf]; omega
          · have h2 : 2 ≤ cnt4 x.l r 4 := by unfold twoAt at ht; rw [decide_eq_true_eq, HF.out] at ht; exact ht
            have hs := skip_hit hlast (by omega) hr3 ht HQ.out
            have HE : Hid (skipR x = startR x r) := by show _ = _; unfold skipR; rw [hs]
            have HE2 : Hid ((skipTo x.l x.s.round).isSome = true) := by show _ = _; rw [hs]; rfl
            clear ht hs
            go_wp2_with fail
            refine (l16Begin_any (fun q => (P q ∨ q = w.heap.size + 1) ∨ q = w.heap.size) A c B d x r _ HX2.out.rows hl ho (by omega) (by omega) hme hvr).mono ?_
            rintro e w4 ⟨A2, c2, B2, d2, rfl, hr4, hk4⟩
            unfold runV
            clear tz tzf tb
            have HZ4 := Lib.hid (hk4.blk (.inl (.inr rfl)) HZ2.out)
            have tz := HZ4.out.cell
            have tzf := HZ4.out.frozen
            go_wp2_with fail
            rw [HE2.out]
            refine bodyPost_ret (v := .tuple #[runV (startR x r) A2 c2 B2 d2, .bool true]) (by unfold runV; first | (simp [results, Try.results136, go_sem, tz]; done) | (simp [results, Try.results136, go_sem, tz]; repeat' (first | rfl | constructor))) rfl ?_
            refine ⟨A2, c2, B2, d2, by rw [HE.out] <;> rfl, ?_, ?_, fun h => by first | exact ⟨rfl, rfl, rfl, rfl⟩ | cases h⟩
            · rw [HE.out]
              show Rows (fillR w4 (w.heap.size + 1) A2 c2 B2 d2 (startR x r)) P A2 c2 B2 d2 (startR x r)
              exact (fillR_rows hr4 (.inl (.inr rfl))).mono fun q hq => .inl (.inl hq)
            · show Keep P w (fillR w4 (w.heap.size + 1) A2 c2 B2 d2 (startR x r))
              exact fillR_keep (HK2.out.trans (hk4.mono fun q hq => .inl (.inl hq))) hnz
    · have hs : skipTo x.l x.s.round = none := skip_none fun q a b => HQ.out q (by omega) b
      have HE : Hid (skipR x = x) := by show _ = _; unfold skipR; rw [hs]
      have HE2 : Hid ((skipTo x.l x.s.round).isSome = false) := by show _ = _; rw [hs]; rfl
      clear hs
      go_wp2_with fail
      rw [HE2.out]
      refine bodyPost_ret (v := .tuple #[runV x A c B d, .bool false]) (by unfold runV; first | (simp [results, Try.results136, go_sem, tz]; done) | (simp [results, Try.results136, go_sem, tz]; repeat' (first | rfl | constructor))) rfl ?_
      refine ⟨A, c, B, d, by rw [HE.out] <;> rfl, ?_, ?_, fun h => by first | exact ⟨rfl, rfl, rfl, rfl⟩ | cases h⟩
      · rw [HE.out]
        show Rows (fillR w2 (w.heap.size + 1) A c B d x) P A c B d x
        exact (fillR_rows HX2.out.rows (.inl (.inr rfl))).mono fun q hq => .inl (.inl hq)
      · show Keep P w (fillR w2 (w.heap.size + 1) A c B d x)
        exact fillR_keep HK2.out hnz
end Go.Proofs.Ytjgaelnonacdkaa
