/- l16Told of the reference. -/
import Derived.ArgAppend
import Derived.WalkKit
import Derived.WalkSpells
import Derived.WalkLawsBesides
import Derived.Lib.Hide
import Derived.Test.YtjgaelnonacdkaaG32
import Derived.Test.YtjgaelnonacdkaaMActCalls
namespace Go.Proofs.Ytjgaelnonacdkaa
open Go.RowKit

section
variable {P : Program} (w : World)
theorem run_app_none (t ty e : TypeId) (i : TypeInfo) (ht : P.underlying t = some (.slice e)) (hi : P.info? e = some i) (A : Option Addr) (b : Addr) (c : Nat) :
    (Builtin.append_ #[t, t] ty #[.slice (some b) 0 0, .slice A 0 c]).run P w = .ok (.slice (some b) 0 0) w := by
  cases A with
  | none => simp [Builtin.append_, run_underlying ht, sizeOf, typeInfo, hi, Builtin.lenOf, Builtin.firstCells, storeCells]
  | some a => simp [Builtin.append_, run_underlying ht, sizeOf, typeInfo, hi, Builtin.lenOf, Builtin.firstCells, storeCells, loadCells, loadCellsFrom]
end
theorem step_app_fresh {P : Program} {ops : Array Oper} {o : Oper} {a : Act} {w : World} {K : Act → World → Prop} {Q : Exit → Act → World → Prop} {E : Prop} (hgd : o.guard = none) (s x : Operand) (t : TypeId)
    (ho : o.op = .call { callee := .builtin .append, args := #[s, x], argTypes := #[t, t] })
    (e : TypeId) (i : TypeInfo) (z : Value) (size bytes : Nat) (ht : P.underlying t = some (.slice e)) (hi : P.info? e = some i) (hz : i.zero = some z)
    (hsize : i.size = size) (hby : i.bytes = bytes) (hzs : z.cells.size = size) (hsz : 0 < size) (b : Addr) (hs : a.eval s = .slice (some b) 0 0)
    (B : Nat) (A : Option Addr) (m c : Nat) (news : List Value) (hx : a.eval x = .slice A m c) (hr : Rd w B A m c size news) (_ : ∀ u ∈ news, u.oneCell' = true)
    (h63 : m ≤ maxLen) (hbytes : m * bytes ≤ 140737488355328)
    (h : ∀ v' w', ((m = 0 ∧ v' = .slice (some b) 0 0 ∧ w' = w) ∨ (0 < m ∧ w'.ownsRow w.heap.size e size v' m news ∧ w.grownBy w' none)) → K (a.put o.dst v') w') :
    if Region.wanted o (yielded ops a.tmps) = true then Oper.wp P o a w K Q else E := by
  have hw : Region.wanted o (yielded ops a.tmps) = true := by simp [Region.wanted, hgd]
  rw [if_pos hw]
  obtain ⟨hl, hmc, hcm, hc⟩ := hr
  rcases Nat.eq_zero_or_pos m with h0 | h0
  · subst h0
    have hrun := run_app_none (P := P) w t o.type e i ht hi A b c
    unfold Oper.wp execOp
    simp only [ho, resolve, invoke, builtin, Sem.run_bind, Sem.run_pure, Result.andThen_ok, List.map_toArray, List.map_cons, List.map_nil, hs, hx, hrun]
    exact h _ _ (.inl ⟨rfl, rfl, rfl⟩)
  · obtain ⟨bl, off, rfl, _, hcc⟩ := hc h0
    obtain ⟨v', w', hrun, r1, r2⟩ := run_append_arg_grows (P := P) w t o.type e i z size bytes ht hi hz hsize hby hzs hsz b 0 0 [] (by simp) (fun j u hu => by simp at hu) ⟨bl, off, none⟩ m c news hl (fun j u hu => by
      have hj : j < m * size := by rw [← hl]; exact (List.getElem?_eq_some_iff.1 hu).1
      have := hcc j hj
      rw [hu] at this
      rw [← this]
      unfold Addr.add
      split
      · rename_i h0; subst h0; rfl
      · rfl) (by omega) (by simpa using h63) (by simpa using hbytes)
    unfold Oper.wp execOp
    simp only [ho, resolve, invoke, builtin, Sem.run_bind, Sem.run_pure, Result.andThen_ok, List.map_toArray, List.map_cons, List.map_nil, hs, hx, hrun]
    exact h _ _ (.inr ⟨h0, by simpa using r1, r2⟩)

/-- what was sent, copied behind the copy of a node -/
def Told (w4 wC w6 : World) (v6 : Value) (A5 : Option Addr) (o : List NMsgD) : Prop :=
  ∃ B6 d6, v6 = .slice B6 o.length d6 ∧ OwnL msgC 5 49 w6 0 w6.heap.size B6 o.length d6 o ∧ Below wC.heap.size wC w6 ∧ ∀ b, B6 = some b → w4.heap.size ≤ b.block ∧ ∀ a, A5 = some a → a.block ≠ b.block
theorem told1 {w4 wC w6 : World} {v6 : Value} {A5 : Option Addr} {lo n c5 : Nat} {l o : List NMsgD} (hoC : OwnL msgC 5 49 wC lo wC.heap.size A5 n c5 l)
    (happ : (o.length = 0 ∧ v6 = .slice (some ⟨wC.heap.size, 0, none⟩) 0 0 ∧ w6 = wC.alloc (.cells #[] 49)) ∨ (0 < o.length ∧ w6.ownsRow (wC.alloc (.cells #[] 49)).heap.size 49 5 v6 o.length (o.flatMap msgC) ∧ (wC.alloc (.cells #[] 49)).grownBy w6 none)) (h4 : w4.heap.size ≤ wC.heap.size) : Told w4 wC w6 v6 A5 o := by
  have ha : ∀ a, A5 = some a → a.block < wC.heap.size := OwnL.lt' (hoC.wide (Nat.zero_le _) (Nat.le_refl _))
  rcases happ with ⟨h0, rfl, rfl⟩ | ⟨_, hown, hg⟩
  · refine ⟨some ⟨wC.heap.size, 0, none⟩, 0, by rw [h0], ⟨rfl, .inr ⟨wC.heap.size, #[], rfl, Nat.zero_le _, by simp, heap_alloc_new wC _, by omega, by unfold maxLen; omega, rfl, fun j hj => by omega⟩⟩, (Below.refl _ _).alloc (Nat.le_refl _) _, fun b e => ?_⟩
    simp only [Option.some.injEq] at e
    subst e
    exact ⟨h4, fun a e => by have := ha a e; show a.block ≠ wC.heap.size; omega⟩
  · obtain ⟨B6, d6, rfl, ho⟩ := OwnL.of_own (f := msgC) (l := o) rfl hown
    refine ⟨B6, d6, rfl, ho.wide (Nat.zero_le _) (Nat.le_refl _), Below.grown ((Below.refl _ _).alloc (Nat.le_refl _) _) hg (by simp) (fun k hk => by cases hk), fun b e => ?_⟩
    subst e
    have := (ho.block b.block rfl).1
    simp only [World.size_alloc] at this
    exact ⟨by omega, fun a e => by have := ha a e; omega⟩
theorem told2 {w4 wC w6 : World} {v6 : Value} {A5 : Option Addr} {n c5 : Nat} {l o : List NMsgD} (hoC : OwnL msgC 5 49 wC (w4.alloc (.cells #[] 49)).drew.heap.size wC.heap.size A5 n c5 l)
    (hbC : Below (w4.alloc (.cells #[] 49)).drew.heap.size (w4.alloc (.cells #[] 49)).drew wC)
    (happ : (o.length = 0 ∧ v6 = .slice (some ⟨w4.heap.size, 0, none⟩) 0 0 ∧ w6 = wC) ∨ (0 < o.length ∧ w6.ownsRow wC.heap.size 49 5 v6 o.length (o.flatMap msgC) ∧ wC.grownBy w6 none)) (h4 : w4.heap.size ≤ wC.heap.size) : Told w4 wC w6 v6 A5 o := by
  have ha : ∀ a, A5 = some a → a.block < wC.heap.size := OwnL.lt' (hoC.wide (Nat.zero_le _) (Nat.le_refl _))
  have hblk : Blk wC w4.heap.size 49 #[] := ((show Blk _ _ _ _ from heap_alloc_new w4 _).drew).below hbC (by simp)
  rcases happ with ⟨h0, rfl, rfl⟩ | ⟨_, hown, hg⟩
  · refine ⟨some ⟨w4.heap.size, 0, none⟩, 0, by rw [h0], ⟨rfl, .inr ⟨w4.heap.size, #[], rfl, Nat.zero_le _, hblk.lt, hblk, by omega, by unfold maxLen; omega, rfl, fun j hj => by omega⟩⟩, Below.refl _ _, fun b e => ?_⟩
    simp only [Option.some.injEq] at e
    subst e
    refine ⟨Nat.le_refl _, fun a e => ?_⟩
    subst e
    have := (hoC.block a.block rfl).1
    simp only [World.size_drew, World.size_alloc] at this
    show a.block ≠ w4.heap.size
    omega
  · obtain ⟨B6, d6, rfl, ho⟩ := OwnL.of_own (f := msgC) (l := o) rfl hown
    refine ⟨B6, d6, rfl, ho.wide (Nat.zero_le _) (Nat.le_refl _), Below.grown (Below.refl _ _) hg (Nat.le_refl _) (fun k hk => by cases hk), fun b e => ?_⟩
    subst e
    have := (ho.block b.block rfl).1
    exact ⟨by omega, fun a e => by have := ha a e; omega⟩

set_option maxRecDepth 100000 in
set_option maxHeartbeats 4000000 in
theorem l16Told_any (P : Nat → Prop) (A : Option Addr) (c : Nat) (B : Option Addr) (d : Nat) (x : RunS) (w : World) (hx : Rows w P A c B d x) (hP : NodeP x.s x.l) (ho : x.o.length ≤ 700) :
    Calls Try.prog 94 #[runV x A c B d] w (CallOut P (restR x, true) w) := by
  have HR := Lib.hid hx
  have HP0 := Lib.hid hP
  have HRK := Lib.hid (rest_ok hP)
  obtain ⟨i0, hi, hz0, hz1, hz2⟩ := info_parts infoMsgC
  clear hx hP
  unfold runV
  go_enter Try.func94, Try.ntmps94
  go_upto_region 1 with fail
  obtain ⟨w2, hw2⟩ : ∃ q, q = (w.alloc (.cells #[.int .i64 x.s.me, .int .i64 x.s.round, .int .i64 x.s.step, .int .i64 x.s.lv, .int .i64 x.s.lr, .int .i64 x.s.vv, .int .i64 x.s.vr, .int .i64 x.s.polka, .int .i64 x.s.dec, .slice A x.l.length c, .slice B x.o.length d] 120)).alloc (.cells #[.int .i64 0, .int .i64 0, .int .i64 0, .int .i64 0, .int .i64 0, .int .i64 0, .int .i64 0, .int .i64 0, .int .i64 0, .slice none 0 0] 79) := ⟨_, rfl⟩
  rw [← hw2]
  have HR2 : Hid (Rows w2 (fun q => (P q ∨ q = w.heap.size) ∨ q = w.heap.size + 1) A c B d x) := by show Rows _ _ _ _ _ _ _; rw [hw2]; exact ((HR.out.new _).new _).mono fun q hq => by simpa using hq
  have HB2 : Hid (Blk w2 w.heap.size 120 (actC x A c B d)) := by show Blk _ _ _ _; rw [hw2]; exact (show Blk _ _ _ _ from heap_alloc_new w _).alloc _
  have HZ2 : Hid (Blk w2 (w.heap.size + 1) 79 #[.int .i64 0, .int .i64 0, .int .i64 0, .int .i64 0, .int .i64 0, .int .i64 0, .int .i64 0, .int .i64 0, .int .i64 0, .slice none 0 0]) := by show Blk _ _ _ _; rw [hw2]; exact blk2
  have HK2 : Hid (Keep P w w2) := by show Keep _ _ _; rw [hw2]; exact ((Keep.refl P w).alloc HR.out.lt _).alloc (HR.out.alloc _).lt _
  have hnz : ¬ P (w.heap.size + 1) := fun h => by have := HR.out.lt _ h; omega
  clear hw2
  have tb := HB2.out.cell
  unfold actC at tb
  go_wp2_with fail
  refine (l16Rules_any (fun q => (P q ∨ q = w.heap.size) ∨ q = w.heap.size + 1) A c B d x _ HR2.out HP0.out ho).mono ?_
  obtain ⟨y, hy⟩ : ∃ y, y = restR x := ⟨_, rfl⟩
  have HYX := Lib.hid hy.symm
  rw [← hy] at HRK ⊢
  clear hy tb
  rintro e w3 ⟨A3, c3, B3, d3, rfl, hr3, hk3⟩
  have HR3 := Lib.hid hr3
  have HZ3 := Lib.hid (hk3.blk (.inr rfl) HZ2.out)
  have HK3 := Lib.hid (HK2.out.trans (hk3.mono fun q hq => .inl (.inl hq)))
  clear hr3 hk3
  unfold runV
  go_upto_region 2 with fail
  obtain ⟨w4, hw4⟩ : ∃ q, q = w3.alloc (.cells #[.int .i64 y.s.me, .int .i64 y.s.round, .int .i64 y.s.step, .int .i64 y.s.lv, .int .i64 y.s.lr, .int .i64 y.s.vv, .int .i64 y.s.vr, .int .i64 y.s.polka, .int .i64 y.s.dec, .slice A3 y.l.length c3, .slice B3 y.o.length d3] 120) := ⟨_, rfl⟩
  rw [← hw4]
  have HR4 : Hid (Rows w4 (fun q => (P q ∨ q = w.heap.size) ∨ q = w.heap.size + 1) A3 c3 B3 d3 y) := by show Rows _ _ _ _ _ _ _; rw [hw4]; exact HR3.out.alloc _
  have HE4 : Hid (Blk w4 w3.heap.size 120 #[.int .i64 y.s.me, .int .i64 y.s.round, .int .i64 y.s.step, .int .i64 y.s.lv, .int .i64 y.s.lr, .int .i64 y.s.vv, .int .i64 y.s.vr, .int .i64 y.s.polka, .int .i64 y.s.dec, .slice A3 y.l.length c3, .slice B3 y.o.length d3]) := by show Blk _ _ _ _; rw [hw4]; exact heap_alloc_new w3 _
  have HZ4 : Hid (Blk w4 (w.heap.size + 1) 79 #[.int .i64 0, .int .i64 0, .int .i64 0, .int .i64 0, .int .i64 0, .int .i64 0, .int .i64 0, .int .i64 0, .int .i64 0, .slice none 0 0]) := by show Blk _ _ _ _; rw [hw4]; exact HZ3.out.alloc _
  have HK4 : Hid (Keep P w w4) := by show Keep _ _ _; rw [hw4]; exact HK3.out.alloc (fun q hq => HR3.out.lt q (.inl (.inl hq))) _
  clear hw4
  have hyl : y.l.length ≤ 90 := HRK.out.1.len
  have hyo : y.o.length ≤ 1000 := by have := HRK.out.2; omega
  have te := HE4.out.cell
  have tz := HZ4.out.cell
  have tzf := HZ4.out.frozen
  have hlte := HE4.out.lt
  have hltz := HZ4.out.lt
  have HLY : Hid (∀ w', Below w4.heap.size w4 w' → RdL msgC 5 w' w'.heap.size A3 y.l.length c3 y.l) := Lib.hid fun w' hb => (HR4.out.rl.below hb (Nat.le_refl _)).more hb.size
  have HOY : Hid (∀ w', Below w4.heap.size w4 w' → RdL msgC 5 w' w'.heap.size B3 y.o.length d3 y.o) := Lib.hid fun w' hb => (HR4.out.ro.below hb (Nat.le_refl _)).more hb.size
  go_region_law (first
    | ((refine step_app_fresh rfl _ _ _ rfl 49 i0 _ 5 40 Try.underlying25 hi hz0 hz1 hz2 rfl (by decide) _ rfl _ B3 y.o.length d3 (y.o.flatMap msgC) rfl (by exact (HOY.out _ (by exact (by repeat (first | exact Below.refl _ _ | assumption | refine Below.drew ?_ | refine belN ?_ _ | refine Below.alloc ?_ (by first | exact Nat.le_refl _ | (simp; done) | (simp; omega) | omega) _ | refine Below.setCell ?_ (by first | exact Nat.le_refl _ | (simp; done) | (simp; omega) | omega) _ | refine Below.trans ?_ (Below.mono (by assumption) (by first | exact Nat.le_refl _ | (simp; done) | (simp; omega) | omega)))))).2) (msgs_one y.o) (by unfold maxLen; omega) (by omega) ?_)
       intro v6 w6 happ
       have hb6 : Below w4.heap.size w4 w6 := by
         rcases happ with ⟨_, _, h6⟩ | ⟨_, _, hg6⟩
         · rw [h6]; exact (by repeat (first | exact Below.refl _ _ | assumption | refine Below.drew ?_ | refine belN ?_ _ | refine Below.alloc ?_ (by first | exact Nat.le_refl _ | (simp; done) | (simp; omega) | omega) _ | refine Below.setCell ?_ (by first | exact Nat.le_refl _ | (simp; done) | (simp; omega) | omega) _ | refine Below.trans ?_ (Below.mono (by assumption) (by first | exact Nat.le_refl _ | (simp; done) | (simp; omega) | omega))))
         · exact Below.grown (by exact (by repeat (first | exact Below.refl _ _ | assumption | refine Below.drew ?_ | refine belN ?_ _ | refine Below.alloc ?_ (by first | exact Nat.le_refl _ | (simp; done) | (simp; omega) | omega) _ | refine Below.setCell ?_ (by first | exact Nat.le_refl _ | (simp; done) | (simp; omega) | omega) _ | refine Below.trans ?_ (Below.mono (by assumption) (by first | exact Nat.le_refl _ | (simp; done) | (simp; omega) | omega))))) hg6 (by first | (simp; done) | (simp; omega) | omega) (fun k hk => by cases hk)
       have hs6 : w4.heap.size ≤ w6.heap.size := hb6.size
       have hlte6 : w3.heap.size < w6.heap.size := by omega
       have hltz6 : w.heap.size + 1 < w6.heap.size := by omega
       have te6 : ∀ o, w6.cell? ⟨w3.heap.size, o, none⟩ = _ := fun o => (hb6.cell (p := ⟨w3.heap.size, o, none⟩) hlte).trans (te o)
       have tz6 : ∀ o, w6.cell? ⟨w.heap.size + 1, o, none⟩ = _ := fun o => (hb6.cell (p := ⟨w.heap.size + 1, o, none⟩) hltz).trans (tz o)
       have tzf6 : ∀ o, w6.frozen? ⟨w.heap.size + 1, o, none⟩ = false := fun o => (hb6.frozen (p := ⟨w.heap.size + 1, o, none⟩) hltz).trans (tzf o)
       have HTO : Hid (Told w4 wC w6 v6 A5 y.o) := by show Told _ _ _ _ _ _; first | exact told1 HOC.out happ hs5 | exact told2 HOC.out HBC.out happ hs5
       clear happ)
    | (go_simp; go_wp2_with (go_at_call 82; (refine (l16Copy_any y.s A3 c3 y.l _ (by exact HLY.out _ (by exact (by repeat (first | exact Below.refl _ _ | assumption | refine Below.drew ?_ | refine belN ?_ _ | refine Below.alloc ?_ (by first | exact Nat.le_refl _ | (simp; done) | (simp; omega) | omega) _ | refine Below.setCell ?_ (by first | exact Nat.le_refl _ | (simp; done) | (simp; omega) | omega) _ | refine Below.trans ?_ (Below.mono (by assumption) (by first | exact Nat.le_refl _ | (simp; done) | (simp; omega) | omega)))))) (by omega)).mono ?_); rintro e wC ⟨A5, c5, rfl, hoC, hbC⟩; have hb5 : Below w4.heap.size w4 wC := (by exact (by repeat (first | exact Below.refl _ _ | assumption | refine Below.drew ?_ | refine belN ?_ _ | refine Below.alloc ?_ (by first | exact Nat.le_refl _ | (simp; done) | (simp; omega) | omega) _ | refine Below.setCell ?_ (by first | exact Nat.le_refl _ | (simp; done) | (simp; omega) | omega) _ | refine Below.trans ?_ (Below.mono (by assumption) (by first | exact Nat.le_refl _ | (simp; done) | (simp; omega) | omega))))); have hs5 : w4.heap.size ≤ wC.heap.size := hb5.size; have hlte5 : w3.heap.size < wC.heap.size := (by omega); have hltz5 : w.heap.size + 1 < wC.heap.size := (by omega); have te5 : ∀ o, wC.cell? ⟨w3.heap.size, o, none⟩ = _ := (fun o => (hb5.cell (p := ⟨w3.heap.size, o, none⟩) hlte).trans (te o)); have tz5 : ∀ o, wC.cell? ⟨w.heap.size + 1, o, none⟩ = _ := (fun o => (hb5.cell (p := ⟨w.heap.size + 1, o, none⟩) hltz).trans (tz o)); have tzf5 : ∀ o, wC.frozen? ⟨w.heap.size + 1, o, none⟩ = false := (fun o => (hb5.frozen (p := ⟨w.heap.size + 1, o, none⟩) hltz).trans (tzf o)); have HOC := Lib.hid hoC; have HBC := Lib.hid hbC; clear hoC hbC)))
  all_goals
    obtain ⟨B6, d6, rfl, ho6, hb56, hsep⟩ := HTO.out
    have HO6 := Lib.hid ho6
    have HS6 := Lib.hid hsep
    have HB56 := Lib.hid hb56
    have HB6 := Lib.hid hb6
    clear ho6 hsep hb56 hb5 hb6
    go_wp2_with fail
    have HA6 : Hid (OwnL msgC 5 49 w6 w4.heap.size w6.heap.size A5 y.l.length c5 y.l) := (HOC.out.below HB56.out (Nat.le_refl _)).wide (by first | exact Nat.le_refl _ | (simp; done) | (simp; omega)) HB56.out.size
    have hPz : ∀ q, P q → q < w4.heap.size := fun q hq => HR4.out.lt q (.inl (.inl hq))
    have HRF : Hid (Rows w6 (fun q => P q ∨ q = w.heap.size + 1) A5 c5 B6 d6 y) := by
      have hge : ∀ a, A5 = some a → w4.heap.size ≤ a.block := fun a e => by subst e; exact (HA6.out.block a.block rfl).1
      have hw46 : w4.heap.size ≤ w6.heap.size := HB6.out.size
      refine ⟨HA6.out.wide (Nat.zero_le _) (Nat.le_refl _), HO6.out, fun a b ea eb => (HS6.out b eb).2 a ea, fun q a hq ea => ?_, fun q b hq eb => ?_, fun q hq => ?_⟩
      · have h1 := hge a ea
        rcases hq with hq | hq
        · have := hPz q hq; omega
        · omega
      · have h1 := (HS6.out b eb).1
        rcases hq with hq | hq
        · have := hPz q hq; omega
        · omega
      · rcases hq with hq | hq
        · have := hPz q hq; omega
        · omega
    have HKF : Hid (Keep P w w6) := HK4.out.trans (Keep.of_below HB6.out hPz)
    refine bodyPost_ret (v := .tuple #[.agg #[.int .i64 y.s.me, .int .i64 y.s.round, .int .i64 y.s.step, .int .i64 y.s.lv, .int .i64 y.s.lr, .int .i64 y.s.vv, .int .i64 y.s.vr, .int .i64 y.s.polka, .int .i64 y.s.dec, .slice A5 y.l.length c5], .slice B6 y.o.length d6, .bool true]) (by simp [results, Try.results94, go_sem, tz6]) rfl ⟨A5, c5, B6, d6, by rw [HYX.out], ?_, ?_⟩
    · rw [HYX.out]
      exact (fillN_rows (g := w.heap.size + 1) (A := A5) (n := y.l.length) (c := c5) (s := y.s) HRF.out (.inr rfl)).mono fun q hq => .inl hq
    · exact fillN_keep (g := w.heap.size + 1) (A := A5) (n := y.l.length) (c := c5) (s := y.s) HKF.out hnz
end Go.Proofs.Ytjgaelnonacdkaa
