/- The frame of a law whose row lists the table of the hash: what a walk gives of such a row; the table's cells; a world that meets the condition. -/
import Derived.Test.YtelnnegfkdfpiaaGreatDoorL
import Derived.Test.YtelnnegfkdfpiaaGreatDoorSha2
import Derived.Test.YtelnnegfkdfpiaaGreatDoorRows
import Derived.Test.YtelnnegfkdfpiaaGreatDoorCards
import Derived.Test.YtelnnegfkdfpiaaGreatDoorTie
import Derived.Lib.LaidTab
import Derived.LaidLaws
import Derived.SevenTiedAt
import Derived.Handed
namespace Go.Proofs.YtelnnegfkdfpiaaGreatDoor
open Go.ChangeShapes Go.WideShapes Go.ChangeAt Go.RowKit Go.Joins Go.Deep

theorem tabName : Tryz.prog.globalNamed "loop.example/g00946/impl.shaWords" = some 0 := by kernel_rfl
theorem tabType : (Tryz.prog.globals[0]?).map (·.type) = some 135 := by kernel_rfl
theorem tabCells : Tryz.prog.cellsOf 135 = 64 := by kernel_rfl
theorem u32Cells : Tryz.prog.cellsOf 129 = 1 := by kernel_rfl
def kzI : List Int := kz.map Int.ofNat
theorem kzI_at : ∀ i, i < 64 → kzI.getD i 0 = ((kW i).toNat : Int) := by decide +kernel
theorem tab_of_laid {W : World} (h : laidMet Tryz.prog [("loop.example/g00946/impl.shaWords", Rows.laid_loop_example_g00946_impl_shaWords)] W) : Tab W := by
  have h' : laidMet Tryz.prog (("loop.example/g00946/impl.shaWords", Lib.tabData .u32 kzI) :: []) W := h
  have ht := Lib.tabIs_of_head tabName tabType Tryz.underlying135 Tryz.underlying129 u32Cells tabCells h'
  intro i hi
  have := ht.cell tabName i hi
  rw [kzI_at i hi] at this
  exact this
/-- a world that holds the table -/
noncomputable def tabWorld (os : Os) : World :=
  let w0 := World.holding Tryz.prog os ⟨#[], #[], []⟩
  { w0 with heap := w0.heap.modify 0 fun
      | .cells _ t frozen => .cells (kzI.map fun z => Value.int .u32 z).toArray t frozen
      | o => o }
theorem tabWorld_met (os : Os) (args : Array Value) : laidMet Tryz.prog [("loop.example/g00946/impl.shaWords", Rows.laid_loop_example_g00946_impl_shaWords)] ((tabWorld os).forCall (fun _ _ => 0) ⟨#[], args, []⟩).memory :=
  laidMet_of_run' 8 (by kernel_rfl) (by kernel_rfl)

section
variable {H : Type} {enc : TypeId × Value → H}
theorem law_post1 {f : Func} {s : ChangeSpec} {tb t : TypeId} {n : String} {W W' : World} {args : Array Value} {ds gs : List (DataW H)} {before : List MemPlace}
    (hres : f.resultTypes = #[tb]) (hbool : Tryz.prog.underlying tb = some .bool) (hvars : s.vars = [n])
    (hn : (Tryz.prog.globalNamed n).bind (fun g => (Tryz.prog.globals[g]?).map (·.type)) = some t) (hrt : (Tryz.prog.readableRec t && decide (t < Tryz.prog.types.size)) = true)
    (hr : (f.params.toList.all fun t => Tryz.prog.readableRec t && decide (t < Tryz.prog.types.size)) = true)
    (hs1 : ∀ d : DataW H, (s.fn H (ds ++ [d])).results = [.lit (.bool true)]) (hs2 : ∀ d : DataW H, (s.fn H (ds ++ [d])).args = ds)
    (hs3 : ∀ d : DataW H, (s.fn H (ds ++ [d])).vars = [d])
    (hW : DataW.Whole enc Tryz.prog f.params.toList s.vars false W args.toList ds gs before) (hb : Below W.heap.size W W') :
    s.post enc Tryz.prog f false true false false W args (.bool true) W' := by
  have hlt := hW.lt
  have hW' := hW
  obtain ⟨p, q, hA, hV, rfl, _, _⟩ := hW
  rw [hvars] at hV
  match gs, hV with
  | d :: r, hV =>
    obtain ⟨g, t', cs, fuel, p1, q1, hg, ht, hvar, hd, hr1, rfl⟩ := hV
    obtain ⟨rfl, rfl⟩ := trodVars_none hr1
    have htt : t' = t := by
      rw [hg] at hn
      simp only [Option.bind_some] at hn
      exact Option.some.inj (ht.symm.trans hn)
    subst htt
    have hblk : g < W.heap.size := by
      unfold World.var? at hvar
      rw [hg] at hvar
      simp only [Option.bind_some] at hvar
      rcases Nat.lt_or_ge g W.heap.size with h | h
      · exact h
      · rw [Array.getElem?_eq_none h] at hvar; cases hvar
    have hvar' : W'.var? Tryz.prog n = some cs := by
      unfold World.var? at hvar ⊢
      rw [hg] at hvar ⊢
      simp only [Option.bind_some] at hvar ⊢
      rw [hb.block g hblk]; exact hvar
    simp only [Bool.and_eq_true, decide_eq_true_eq] at hrt
    have hT : DataW.Trod enc Tryz.prog W 0 (fun _ => true) true t' (.agg cs) d p1 := ⟨fuel, hd⟩
    obtain ⟨fuel2, hd2⟩ := Below.trod laidOut hrt.1 hrt.2 hT hb (fun x hx => hlt x (by simp [hx]))
    refine ⟨ds, [d], _, [], p, MemPlace.row ⟨g, 0, none⟩ cs.size ++ p1 ++ [], hW', ?_, ?_, ?_, hb.frame _, fun h => by cases h⟩
    · rw [hs1 _, hres]
      exact trodAll_mk1 (shut_bool hbool _)
    · rw [hs2 _]
      exact trodAll_below laidOut hb _ _ _ _ hr hA (fun x hx => hlt x (List.mem_append_left _ hx))
    · rw [hs3 _, hvars]
      exact ⟨g, t', cs, fuel2, p1, [], hg, ht, hvar', hd2, rfl, rfl⟩
end
end Go.Proofs.YtelnnegfkdfpiaaGreatDoor
