/- rest of an acting node: its rules, as long as one can be done. -/
import Derived.Test.YtmpppmeloieamaaActRule
import Derived.WalkKit
import Derived.WalkSpells
import Derived.WalkLawsBesides
import Derived.Lib.Hide
namespace Go.Proofs.Ytmpppmeloieamaa
open Go.RowKit

def cellI (w : World) (a : Addr) : Int := match w.cell? a with | some (.int .i64 n) => n | _ => 0
def muOf (w : World) (g : Nat) : Nat := if 0 < cellI w ⟨g, 8, none⟩ then 0 else 1 + ((12 - cellI w ⟨g, 1, none⟩) * 10 + (3 - cellI w ⟨g, 2, none⟩) * 2 + (if cellI w ⟨g, 7, none⟩ = cellI w ⟨g, 1, none⟩ then 0 else 1)).toNat
theorem muOf_eq {w : World} {g : Nat} {t : TypeId} {A B : Option Addr} {c d : Nat} {x : RunS} (h : Blk w g t (actC x A c B d)) : muOf w g = muR x := by
  have h8 : cellI w ⟨g, 8, none⟩ = x.s.dec := by unfold cellI; rw [h.cell]; rfl
  have h1 : cellI w ⟨g, 1, none⟩ = x.s.round := by unfold cellI; rw [h.cell]; rfl
  have h2 : cellI w ⟨g, 2, none⟩ = x.s.step := by unfold cellI; rw [h.cell]; rfl
  have h7 : cellI w ⟨g, 7, none⟩ = x.s.polka := by unfold cellI; rw [h.cell]; rfl
  unfold muOf muR
  rw [h8, h1, h2, h7]
/-- what a call on a node hands back -/
def CallOut (P : Nat → Prop) (r : RunS × Bool) (w : World) (e : Ending) (w' : World) : Prop :=
  ∃ A c B d, e = .returned (.tuple #[.agg #[.int .i64 r.1.s.me, .int .i64 r.1.s.round, .int .i64 r.1.s.step, .int .i64 r.1.s.lv, .int .i64 r.1.s.lr, .int .i64 r.1.s.vv, .int .i64 r.1.s.vr, .int .i64 r.1.s.polka, .int .i64 r.1.s.dec, .slice A r.1.l.length c], .slice B r.1.o.length d, .bool r.2]) ∧ Rows w' P A c B d r.1 ∧ Keep P w w'
theorem rows_keep {P : Nat → Prop} {w w' : World} {A B : Option Addr} {c d : Nat} {x : RunS} {P' : Nat → Prop} (h : Rows w P A c B d x) (hk : Keep P' w w') (ha : ∀ a, A = some a → P' a.block) (hb : ∀ b, B = some b → P' b.block) : Rows w' P A c B d x := by
  refine ⟨(h.la.keep fun g _ _ e => ?_).wide (Nat.le_refl _) hk.size, (h.ob.keep fun g _ _ e => ?_).wide (Nat.le_refl _) hk.size, h.sep, h.pa, h.pb, fun q hq => Nat.lt_of_lt_of_le (h.lt q hq) hk.size⟩
  · cases A with
    | none => cases e
    | some a => simp only [Value.ownBlock, Option.some.injEq] at e; exact hk.block g (e ▸ ha a rfl)
  · cases B with
    | none => cases e
    | some b => simp only [Value.ownBlock, Option.some.injEq] at e; exact hk.block g (e ▸ hb b rfl)

set_option maxRecDepth 100000 in
set_option maxHeartbeats 4000000 in
theorem rest_any (P : Nat → Prop) (g : Nat) (A : Option Addr) (c : Nat) (B : Option Addr) (d : Nat) (x : RunS) (w : World) (hx : ActAt w P g A c B d x) (hP : NodeP x.s x.l) (ho : x.o.length ≤ 700) :
    Calls Try.prog 38 #[.pointer (some ⟨g, 0, none⟩)] w (CallOut P (restR x, true) w) := by
  have HX := Lib.hid hx
  have HP0 := Lib.hid hP
  clear hx hP
  go_enter Try.func38, Try.ntmps38
  go_wp2_with fail
  go_loopw [6] (fun _ wr => ∃ (y : RunS) (A : Option Addr) (c : Nat) (B : Option Addr) (d : Nat), ActAt wr (fun q => P q ∨ q = w.heap.size) g A c B d y ∧
    Blk wr w.heap.size 28 #[.int .i64 0, .int .i64 0, .int .i64 0, .int .i64 0, .int .i64 0, .int .i64 0, .int .i64 0, .int .i64 0, .int .i64 0, .slice none 0 0] ∧
    NodeP y.s y.l ∧ restR y = restR x ∧ y.o.length + muR y ≤ x.o.length + muR x ∧ Keep P w wr) (fun _ wr => muOf wr g)
  case atStart => exact ⟨x, A, c, B, d, HX.out.new _, heap_alloc_new w _, HP0.out, rfl, Nat.le_refl _, (Keep.refl P w).alloc HX.out.ltP _⟩
  case round =>
    obtain ⟨y, A1, c1, B1, d1, ha, hz, hp, hre, hlen, hk⟩ := hrel
    have HA := Lib.hid ha
    have HZ := Lib.hid hz
    have HY := Lib.hid hp
    have HE := Lib.hid hre
    have HK := Lib.hid hk
    have HLen := Lib.hid hlen
    have hmu := mu_le HP0.out
    have hyo : y.o.length ≤ 900 := by omega
    have hmuE := Lib.hid (muOf_eq ha.blk)
    clear ha hz hp hre hlen hk hmu
    cases hr : ruleR y with
    | none =>
      have HR := Lib.hid hr
      have H1 : Hid ((ruleR y).getD y = y) := by show _ = _; rw [hr]; rfl
      have H2 : Hid ((ruleR y).isSome = false) := by show _ = _; rw [hr]; rfl
      clear hr
      go_wp2_with fail
      refine (rule_any _ g A1 c1 B1 d1 y _ HA.out HY.out hyo).mono ?_
      rw [H1.out, H2.out]
      rintro e w2 ⟨A2, c2, B2, d2, rfl, ha2, hk2⟩
      have HA2 := Lib.hid ha2
      have HZ2 := Lib.hid (hk2.blk (.inr rfl) HZ.out)
      have HK2 := Lib.hid (HK.out.trans (hk2.mono fun q hq => .inl hq))
      have HRY : Hid (restR x = y) := by show _ = _; rw [← HE.out, restR_none HR.out]
      clear ha2 hk2
      have tg := HA2.out.cells
      have tz := HZ2.out.cell
      have tzf := HZ2.out.frozen
      have hltg := HA2.out.lt
      have hltz := HZ2.out.lt
      have hnz : ¬ P w.heap.size := fun h => by have := HX.out.ltP _ h; omega
      have hgz : g ≠ w.heap.size := by have := HX.out.lt; omega
      go_upto_region 2 with fail
      go_region
      all_goals
        go_wp2
        refine bodyPost_ret (v := .tuple #[.agg #[.int .i64 y.s.me, .int .i64 y.s.round, .int .i64 y.s.step, .int .i64 y.s.lv, .int .i64 y.s.lr, .int .i64 y.s.vv, .int .i64 y.s.vr, .int .i64 y.s.polka, .int .i64 y.s.dec, .slice A2 y.l.length c2], .slice B2 y.o.length d2, .bool true]) (by simp [results, Try.results38, go_sem, tz]) rfl ⟨A2, c2, B2, d2, by rw [HRY.out], ?_, ?_⟩
        · rw [HRY.out]
          refine Rows.mono (P := fun q => (P q ∨ q = w.heap.size) ∨ q = g) ?_ fun q hq => .inl (.inl hq)
          repeat with_reducible first | refine Rows.keeps ?_ (.inl (.inr rfl)) _ | refine Rows.drew ?_
          with_reducible exact HA2.out.rows
        · repeat with_reducible first | refine Keep.setCell ?_ hnz _ | refine Keep.drew ?_
          with_reducible exact HK2.out
    | some z =>
      have HR := Lib.hid hr
      have H1 : Hid ((ruleR y).getD y = z) := by show _ = _; rw [hr]; rfl
      have H2 : Hid ((ruleR y).isSome = true) := by show _ = _; rw [hr]; rfl
      have HRO := Lib.hid (rule_ok HY.out hr)
      clear hr
      go_wp2_with fail
      refine (rule_any _ g A1 c1 B1 d1 y _ HA.out HY.out hyo).mono ?_
      rw [H1.out, H2.out]
      rintro e w2 ⟨A2, c2, B2, d2, rfl, ha2, hk2⟩
      have HA2 := Lib.hid ha2
      have HZ2 := Lib.hid (hk2.blk (.inr rfl) HZ.out)
      have HK2 := Lib.hid (HK.out.trans (hk2.mono fun q hq => .inl hq))
      clear ha2 hk2
      go_wp2_with fail
      go_roundw
      case rel => exact ⟨z, A2, c2, B2, d2, HA2.out, HZ2.out, HRO.out.ok, by rw [← HE.out, restR_some HY.out HR.out], by have h1 := HRO.out.mu; have h2 := HRO.out.out; have h3 := HLen.out; omega, HK2.out⟩
      case measure => rw [muOf_eq HA2.out.blk, hmuE.out]; exact HRO.out.mu
end Go.Proofs.Ytmpppmeloieamaa
