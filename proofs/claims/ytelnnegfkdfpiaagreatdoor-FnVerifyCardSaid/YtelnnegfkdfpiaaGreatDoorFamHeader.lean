/- The family of small functions on Header: copies, sizes, comparisons (written by wip/fam.py). -/
import Derived.Test.YtelnnegfkdfpiaaGreatDoorM
import Derived.Laws.NewBlocks
import Derived.WalkKit
import Derived.WalkSpells
import Derived.WalkLawsBesides
import Derived.Lib.Hide
namespace Go.Proofs.YtelnnegfkdfpiaaGreatDoor
open Go.RowKit

structure HeaderD where
  h : Int
  t : Int
  last : ByteArray
  vals : ByteArray
  next : ByteArray
  data : ByteArray
def headC (p : HeaderD) : List Value := [.int .i64 p.h, .int .i64 p.t, .string p.last, .string p.vals, .string p.next, .string p.data]
theorem headC_len (p : HeaderD) : (headC p).length = 6 := rfl

theorem head_cells {w : World} {B : Nat} {A : Option Addr} {n c : Nat} {l : List HeaderD} (h : RdL headC 6 w B A n c l) {k : Nat} (hk : k < n) :
    ∃ b off p, A = some ⟨b, off, none⟩ ∧ b < B ∧ l[k]? = some p ∧ w.cell? ⟨b, off + k * 6, none⟩ = some (.int .i64 p.h) ∧ w.cell? ⟨b, off + k * 6 + 1, none⟩ = some (.int .i64 p.t) ∧ w.cell? ⟨b, off + k * 6 + 2, none⟩ = some (.string p.last) ∧ w.cell? ⟨b, off + k * 6 + 3, none⟩ = some (.string p.vals) ∧ w.cell? ⟨b, off + k * 6 + 4, none⟩ = some (.string p.next) ∧ w.cell? ⟨b, off + k * 6 + 5, none⟩ = some (.string p.data) := by
  obtain ⟨b, off, p, e, hb, hp, hc⟩ := h.at_ headC_len hk
  exact ⟨b, off, p, e, hb, hp, hc 0 (by omega), hc 1 (by omega), hc 2 (by omega), hc 3 (by omega), hc 4 (by omega), hc 5 (by omega)⟩

theorem toHeader_any (h' : Int) (t' : Int) (last' : ByteArray) (vals' : ByteArray) (next' : ByteArray) (data' : ByteArray) (w : World) :
    Calls Tryz.prog 20 #[.agg #[.int .i64 h', .int .i64 t', .string last', .string vals', .string next', .string data']] w fun e w' => e = .returned (.agg #[.int .i64 h', .int .i64 t', .string last', .string vals', .string next', .string data']) ∧ Below w.heap.size w w' := by
  go_enter Tryz.func20, Tryz.ntmps20
  go_wp2
  exact bodyPost_ret (v := .agg #[.int .i64 h', .int .i64 t', .string last', .string vals', .string next', .string data']) (by simp [results, Tryz.results20, go_sem]) rfl ⟨rfl, (by repeat (first | exact Below.refl _ _ | assumption | refine Below.drew ?_ | refine belN ?_ _ | refine Below.alloc ?_ (by first | exact Nat.le_refl _ | (simp; done) | (simp; omega) | omega) _ | refine Below.setCell ?_ (by first | exact Nat.le_refl _ | (simp; done) | (simp; omega) | omega) _ | refine Below.trans ?_ (Below.mono (by assumption) (by first | exact Nat.le_refl _ | (simp; done) | (simp; omega) | omega))))⟩


theorem eqHeader_same (h' : Int) (t' : Int) (last' : ByteArray) (vals' : ByteArray) (next' : ByteArray) (data' : ByteArray) (w : World) :
    Calls Tryz.prog 57 #[.agg #[.int .i64 h', .int .i64 t', .string last', .string vals', .string next', .string data'], .agg #[.int .i64 h', .int .i64 t', .string last', .string vals', .string next', .string data']] w fun e w' => e = .returned (.bool true) ∧ Below w.heap.size w w' := by
  go_enter Tryz.func57, Tryz.ntmps57
  go_wp2
  go_ret
  exact ⟨rfl, (by repeat (first | exact Below.refl _ _ | assumption | refine Below.drew ?_ | refine belN ?_ _ | refine Below.alloc ?_ (by first | exact Nat.le_refl _ | (simp; done) | (simp; omega) | omega) _ | refine Below.setCell ?_ (by first | exact Nat.le_refl _ | (simp; done) | (simp; omega) | omega) _ | refine Below.trans ?_ (Below.mono (by assumption) (by first | exact Nat.le_refl _ | (simp; done) | (simp; omega) | omega))))⟩

end Go.Proofs.YtelnnegfkdfpiaaGreatDoor
