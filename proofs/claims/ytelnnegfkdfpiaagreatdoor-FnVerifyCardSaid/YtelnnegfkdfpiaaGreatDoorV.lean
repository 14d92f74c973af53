/- Var: numbers in bytes of seven bits. -/
import Derived.Test.YtelnnegfkdfpiaaGreatDoorW2
import Derived.Laws.AppendOwn
import Derived.OwnWalk
import Derived.Deep.AppendLies
import Derived.WalkKit
import Derived.WalkSpells
import Derived.WalkLawsBesides
import Derived.Lib.Hide
namespace Go.Proofs.YtelnnegfkdfpiaaGreatDoor
open Go.RowKit

def varAux : Nat → Int → List UInt8
  | 0, n => [UInt8.ofNat n.toNat]
  | f + 1, n => if n ≤ 127 then [UInt8.ofNat n.toNat] else UInt8.ofNat (n % 128 + 128).toNat :: varAux f (n / 128)
def varL (n : Int) : List UInt8 := if inB n 0 562949953421311 = true then varAux 6 n else []
theorem varAux_last (f : Nat) (n : Int) (h : n ≤ 127) : varAux f n = [UInt8.ofNat n.toNat] := by cases f <;> simp [varAux, h]
theorem varAux_len (f : Nat) : ∀ n, (varAux f n).length ≤ f + 1 := by
  induction f with
  | zero => intro n; simp [varAux]
  | succ f ih => intro n; unfold varAux; split
                 · simp
                 · simp only [List.length_cons]; have := ih (n / 128); omega
theorem varL_len (n : Int) : (varL n).length ≤ 7 := by
  unfold varL; split
  · exact varAux_len 6 n
  · simp

def byteV (b : UInt8) : Value := .int .u8 b.toNat

theorem conv_own {w : World} {base : Nat} {v : Value} {l : List UInt8} (h : w.ownsRow base 5 1 v l.length (l.map byteV)) (h0 : 0 < l.length) :
    (convert 22 9 v).run Tryz.prog w = .ok (.string ⟨l.toArray⟩) w := by
  obtain ⟨g, cap, rfl, _, _⟩ := h.form h0
  refine run_convert_bytes_back (P := Tryz.prog) w 22 9 5 ⟨g, 0, none⟩ cap l Tryz.underlying22 Tryz.underlying5 Tryz.underlying9 (fun j hj => ?_)
  have e1 : (⟨g, 0, none⟩ : Addr).add j = ⟨g, j, none⟩ := by unfold Addr.add; split <;> simp_all
  rw [e1, h.cellAt j (by omega)]
  simp [byteV, List.getElem?_eq_getElem hj]
theorem i64_and127 (x : Int) (h₀ : 0 ≤ x) (h₁ : x < 2 ^ 63) : bits .and .i64 x 127 = x % 128 := bits_mask .i64 63 (by decide) wraps_i64 7 (by decide) x h₀ h₁
theorem i64_or128 (y : Int) (h₀ : 0 ≤ y) (h₁ : y < 128) : bits .or .i64 y 128 = y + 128 := by
  obtain ⟨n, rfl⟩ := Int.eq_ofNat_of_zero_le h₀
  have h := (bits_nat .i64 63 (by decide) wraps_i64 n 128 (by omega) (by decide)).2
  have e : n ||| 128 = n + 128 := by
    have h2 := Nat.two_pow_add_eq_or_of_lt (i := 7) (b := n) (by omega) 1
    rw [Nat.or_comm]
    simpa [Nat.add_comm] using h2.symm
  rw [e] at h
  simpa using h

theorem one_new (w : World) (u : Value) (t : TypeId) : ∀ (j : Nat) (x : Value), [u][j]? = some x → (w.alloc (Obj.cells #[u] t)).cell? ((⟨w.heap.size, 0, none⟩ : Addr).add j) = some x := by
  intro j x hj
  have h0 : j = 0 := by
    rcases Nat.eq_zero_or_pos j with h | h
    · exact h
    · rw [List.getElem?_eq_none (by simp; omega)] at hj; cases hj
  subst h0
  simp only [List.getElem?_cons_zero, Option.some.injEq] at hj
  subst hj
  simp [Addr.add]
theorem one_cell (u : Value) (h : u.oneCell' = true) : ∀ x ∈ [u], x.oneCell' = true := by
  intro x hx; simp only [List.mem_singleton] at hx; subst hx; exact h
def P128 (f : Nat) (m : Int) : Prop := m < 128 ^ (f + 1)

set_option maxRecDepth 100000 in
set_option maxHeartbeats 400000 in
theorem sVar_any (n : Int) (w : World) :
    Calls Tryz.prog 79 #[.int .i64 n] w fun e w' => e = .returned (.string ⟨(varL n).toArray⟩) ∧ Below w.heap.size w w' := by
  cases hk : inB n 0 562949953421311
  · have HE : Hid (varL n = []) := by show _ = _; simp [varL, hk]
    go_enter Tryz.func79, Tryz.ntmps79
    go_wp2_with (go_at_call 75; (with_reducible refine (l1In_any _ _ _ _).mono ?_); rintro e w' ⟨rfl, rfl⟩)
    go_ret
    exact ⟨by rw [HE.out]; rfl, Below.refl _ _⟩
  have HE : Hid (varL n = varAux 6 n) := by show _ = _; simp [varL, hk]
  have hbd := inB_bd hk
  obtain ⟨i0, hi, hz0, hz1, hz2⟩ := info_parts infoU8
  go_enter Tryz.func79, Tryz.ntmps79
  go_wp2_with (go_at_call 75; (with_reducible refine (l1In_any _ _ _ _).mono ?_); rintro e w' ⟨rfl, rfl⟩)
  go_loopw [0, 3] (fun m o wr => ∃ (f : Nat) (x : Int) (pre : List UInt8), m = .int .i64 x ∧ 0 ≤ x ∧ x ≤ 562949953421311 ∧ P128 f x ∧ pre.length + f = 6 ∧ pre ++ varAux f x = varAux 6 n ∧ wr.ownsRow w.heap.size 5 1 o pre.length (pre.map byteV) ∧ Below w.heap.size w wr) (fun m _ _ => (intOf m).toNat)
  case atStart =>
    refine ⟨6, n, [], rfl, hbd.1, hbd.2, ?_, rfl, rfl, ?_, (by repeat (first | exact Below.refl _ _ | assumption | refine Below.drew ?_ | refine belN ?_ _ | refine Below.alloc ?_ (by first | exact Nat.le_refl _ | (simp; done) | (simp; omega) | omega) _ | refine Below.setCell ?_ (by first | exact Nat.le_refl _ | (simp; done) | (simp; omega) | omega) _ | refine Below.trans ?_ (Below.mono (by assumption) (by first | exact Nat.le_refl _ | (simp; done) | (simp; omega) | omega))))⟩
    · unfold P128; omega
    · exact World.ownsRow_lit w #[] 0 (Nat.le_refl _) (by decide) rfl
  case round =>
    obtain ⟨f, x, pre, rfl, x0, x1, hp, hf, heq, hown, hb⟩ := hrel
    have HP := Lib.hid hp; have HF := Lib.hid hf; have HQ := Lib.hid heq; have HO := Lib.hid hown
    have hz := hb.size
    have hpl : pre.length ≤ 6 := by omega
    clear hp hf heq hown
    by_cases hx : x ≤ 127
    · have HB8 := Lib.hid (byte_int x x0 (by omega))
      go_wp2_with (at_builtin; refine wpList_append_own _ rfl _ _ 22 rfl w.heap.size 5 i0 (.int .u8 0) 1 1 Tryz.underlying22 hi hz0 hz1 hz2 rfl (by decide) _ _ _ rfl (HO.out.alloc _) ⟨_, 0, none⟩ 1 1 [.int .u8 x] rfl rfl (one_new _ _ _) (one_cell _ rfl) (by unfold maxLen; omega) (by omega) (by simp; omega) ?_)
      intro v' w1 hown' hgrow _
      have hb1 : Below w.heap.size w w1 := (hb.alloc hz _).grown hgrow (by simp; omega) (fun k hk => (HO.out.lt k hk).1)
      have e1 : List.map byteV pre ++ [Value.int .u8 x] = (pre ++ [UInt8.ofNat x.toNat]).map byteV := by rw [List.map_append]; simp only [List.map_cons, List.map_nil, byteV, HB8.out]
      rw [e1] at hown'
      have kc := conv_own (l := pre ++ [UInt8.ofNat x.toNat]) (by simpa using hown') (by simp)
      have HB1 := Lib.hid hb1
      clear hown' hgrow e1 hb1
      go_wp2
      go_ret
      exact ⟨by rw [HE.out, ← HQ.out, varAux_last f x hx]; rfl, HB1.out⟩
    · have HX := Lib.hid hx
      skip
      go_wp2_with (at_builtin; refine wpList_append_own _ rfl _ _ 22 rfl w.heap.size 5 i0 (.int .u8 0) 1 1 Tryz.underlying22 hi hz0 hz1 hz2 rfl (by decide) _ _ _ rfl (HO.out.alloc _) ⟨_, 0, none⟩ 1 1 [.int .u8 (128 + x % 128)] rfl rfl (one_new _ _ _) (one_cell _ rfl) (by unfold maxLen; omega) (by omega) (by simp; omega) ?_)
      intro v' w1 hown' hgrow _
      have hb1 : Below w.heap.size w w1 := (hb.alloc hz _).grown hgrow (by simp; omega) (fun k hk => (HO.out.lt k hk).1)
      have HB1 := Lib.hid hb1; have HO1 := Lib.hid hown'
      clear hown' hgrow hb1
      go_wp2
      go_roundw
      case rel =>
        cases f with
        | zero => have := HP.out; have := HX.out; unfold P128 at *; omega
        | succ f =>
          refine ⟨f, x / 128, pre ++ [UInt8.ofNat (x % 128 + 128).toNat], rfl, by omega, by omega, ?_, by have := HF.out; simp; omega, ?_, ?_, HB1.out⟩
          · have := HP.out; unfold P128 at *; rw [Int.pow_succ] at this; exact Int.ediv_lt_of_lt_mul (by decide) this
          · rw [← HQ.out, List.append_assoc]; congr 1; simp only [varAux]; rw [if_neg (by have := HX.out; omega)]; rfl
          · have e : (((UInt8.ofNat (x % 128 + 128).toNat).toNat : Nat) : Int) = 128 + x % 128 := by rw [byte_int _ (by omega) (by omega)]; omega
            have h1 := HO1.out
            rw [show List.map byteV pre ++ [Value.int .u8 (128 + x % 128)] = (pre ++ [UInt8.ofNat (x % 128 + 128).toNat]).map byteV from by rw [List.map_append]; simp only [List.map_cons, List.map_nil, byteV, e]] at h1
            simpa using h1
      case measure => simp [intOf]; omega
set_option maxRecDepth 100000 in
set_option maxHeartbeats 400000 in
theorem Var_any (n : Int) (w : World) :
    Calls Tryz.prog 100 #[.int .i64 n] w fun e w' => e = .returned (.string ⟨(varL n).toArray⟩) ∧ Below w.heap.size w w' := by
  cases hk : inB n 0 562949953421311
  · have HE : Hid (varL n = []) := by show _ = _; simp [varL, hk]
    go_enter Tryz.func100, Tryz.ntmps100
    go_wp2_with (go_at_call 88; (with_reducible refine (within_any _ _ _ _).mono ?_); rintro e w' ⟨rfl, rfl⟩)
    go_ret
    exact ⟨by rw [HE.out]; rfl, Below.refl _ _⟩
  have HE : Hid (varL n = varAux 6 n) := by show _ = _; simp [varL, hk]
  have hbd := inB_bd hk
  obtain ⟨i0, hi, hz0, hz1, hz2⟩ := info_parts infoU8
  go_enter Tryz.func100, Tryz.ntmps100
  go_wp2_with (go_at_call 88; (with_reducible refine (within_any _ _ _ _).mono ?_); rintro e w' ⟨rfl, rfl⟩)
  go_loopw [0, 3] (fun m o wr => ∃ (f : Nat) (x : Int) (pre : List UInt8), m = .int .i64 x ∧ 0 ≤ x ∧ x ≤ 562949953421311 ∧ P128 f x ∧ pre.length + f = 6 ∧ pre ++ varAux f x = varAux 6 n ∧ wr.ownsRow w.heap.size 5 1 o pre.length (pre.map byteV) ∧ Below w.heap.size w wr) (fun m _ _ => (intOf m).toNat)
  case atStart =>
    refine ⟨6, n, [], rfl, hbd.1, hbd.2, ?_, rfl, rfl, ?_, (by repeat (first | exact Below.refl _ _ | assumption | refine Below.drew ?_ | refine belN ?_ _ | refine Below.alloc ?_ (by first | exact Nat.le_refl _ | (simp; done) | (simp; omega) | omega) _ | refine Below.setCell ?_ (by first | exact Nat.le_refl _ | (simp; done) | (simp; omega) | omega) _ | refine Below.trans ?_ (Below.mono (by assumption) (by first | exact Nat.le_refl _ | (simp; done) | (simp; omega) | omega))))⟩
    · unfold P128; omega
    · exact World.ownsRow_lit w #[] 0 (Nat.le_refl _) (by decide) rfl
  case round =>
    obtain ⟨f, x, pre, rfl, x0, x1, hp, hf, heq, hown, hb⟩ := hrel
    have HP := Lib.hid hp; have HF := Lib.hid hf; have HQ := Lib.hid heq; have HO := Lib.hid hown
    have hz := hb.size
    have hpl : pre.length ≤ 6 := by omega
    clear hp hf heq hown
    by_cases hx : x ≤ 127
    · have HB8 := Lib.hid (byte_int x x0 (by omega))
      go_wp2_with (at_builtin; refine wpList_append_own _ rfl _ _ 22 rfl w.heap.size 5 i0 (.int .u8 0) 1 1 Tryz.underlying22 hi hz0 hz1 hz2 rfl (by decide) _ _ _ rfl (HO.out.alloc _) ⟨_, 0, none⟩ 1 1 [.int .u8 x] rfl rfl (one_new _ _ _) (one_cell _ rfl) (by unfold maxLen; omega) (by omega) (by simp; omega) ?_)
      intro v' w1 hown' hgrow _
      have hb1 : Below w.heap.size w w1 := (hb.alloc hz _).grown hgrow (by simp; omega) (fun k hk => (HO.out.lt k hk).1)
      have e1 : List.map byteV pre ++ [Value.int .u8 x] = (pre ++ [UInt8.ofNat x.toNat]).map byteV := by rw [List.map_append]; simp only [List.map_cons, List.map_nil, byteV, HB8.out]
      rw [e1] at hown'
      have kc := conv_own (l := pre ++ [UInt8.ofNat x.toNat]) (by simpa using hown') (by simp)
      have HB1 := Lib.hid hb1
      clear hown' hgrow e1 hb1
      go_wp2
      go_ret
      exact ⟨by rw [HE.out, ← HQ.out, varAux_last f x hx]; rfl, HB1.out⟩
    · have HX := Lib.hid hx
      have hA := i64_and127 x x0 (by omega)
      have hO := i64_or128 (x % 128) (by omega) (by omega)
      go_wp2_with (at_builtin; refine wpList_append_own _ rfl _ _ 22 rfl w.heap.size 5 i0 (.int .u8 0) 1 1 Tryz.underlying22 hi hz0 hz1 hz2 rfl (by decide) _ _ _ rfl (HO.out.alloc _) ⟨_, 0, none⟩ 1 1 [.int .u8 (x % 128 + 128)] rfl rfl (one_new _ _ _) (one_cell _ rfl) (by unfold maxLen; omega) (by omega) (by simp; omega) ?_)
      intro v' w1 hown' hgrow _
      have hb1 : Below w.heap.size w w1 := (hb.alloc hz _).grown hgrow (by simp; omega) (fun k hk => (HO.out.lt k hk).1)
      have HB1 := Lib.hid hb1; have HO1 := Lib.hid hown'
      clear hown' hgrow hb1
      go_wp2
      go_roundw
      case rel =>
        cases f with
        | zero => have := HP.out; have := HX.out; unfold P128 at *; omega
        | succ f =>
          refine ⟨f, x / 128, pre ++ [UInt8.ofNat (x % 128 + 128).toNat], rfl, by omega, by omega, ?_, by have := HF.out; simp; omega, ?_, ?_, HB1.out⟩
          · have := HP.out; unfold P128 at *; rw [Int.pow_succ] at this; exact Int.ediv_lt_of_lt_mul (by decide) this
          · rw [← HQ.out, List.append_assoc]; congr 1; simp only [varAux]; rw [if_neg (by have := HX.out; omega)]; rfl
          · have e : (((UInt8.ofNat (x % 128 + 128).toNat).toNat : Nat) : Int) = x % 128 + 128 := by rw [byte_int _ (by omega) (by omega)]
            have h1 := HO1.out
            rw [show List.map byteV pre ++ [Value.int .u8 (x % 128 + 128)] = (pre ++ [UInt8.ofNat (x % 128 + 128).toNat]).map byteV from by rw [List.map_append]; simp only [List.map_cons, List.map_nil, byteV, e]] at h1
            simpa using h1
      case measure => simp [intOf]; omega
end Go.Proofs.YtelnnegfkdfpiaaGreatDoor
