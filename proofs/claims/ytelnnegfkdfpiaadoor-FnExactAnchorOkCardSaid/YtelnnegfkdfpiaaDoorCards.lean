/-
  DERIVED. GIVEN WITH THE SEED: THE CARDS: each row of YtelnnegfkdfpiaaDoorRows.lean that lists a variable, with what it lists TIED to the program's text (the seventh form; the later family's looks); each row that meets fmt, with fmt's text TOLD by the authors' own Lean function (tested against real Go, not proved from fmt's source: count such statements apart). THE CARD IS WHAT COUNTS. Prove the row's statement (the work); the ties are given (YtelnnegfkdfpiaaDoorTie.lean); close each card by the builder's one call (the guide's Derived/Test/ToyasCard.lean, 'card_holds'). Laid BY PROGRAM, IN A SANDBOX (cutbox-door.mjs). By AI agents, Wed Nov 11 2026. No macro, syntax, notation, axiom, sorry.
-/
import Derived.Test.YtelnnegfkdfpiaaDoorRows
import GoSem.ClaimSeven
namespace Go.Proofs.YtelnnegfkdfpiaaDoor
namespace Rows

/-- THE TIED CARD OF 'laws.FnExactAnchorOk'. -/
def fnExactAnchorOkCard : Claim7 := { stood := { row := fnExactAnchorOkRow, standIns := [], harness := (true, "1d0ad82e2b2c9e29c02d9ae66e566fa0b51fb66acbd40c20d255f12ca235c6dd"), looks := false }, kinds := [], alts := [], laidByText := true, laidKinds := [.data], laidTests := true, laidLooks := .later }
def FnExactAnchorOkCardSaid : Prop := Claim7.holds Tryd.pinned (.plain (OpenSpec.ofChange fnExactAnchorOkSpec)) fnExactAnchorOkCard

/-- THE SECOND FORM's CARD OF 'laws.FnExactAnchorOk'. -/
def fnExactAnchorOkUptoCard : Claim7 := { stood := { row := fnExactAnchorOkUptoRow, standIns := [], harness := (true, "1d0ad82e2b2c9e29c02d9ae66e566fa0b51fb66acbd40c20d255f12ca235c6dd"), looks := false }, kinds := [], alts := [], laidByText := true, laidKinds := [.data], laidTests := true, laidLooks := .later }
def FnExactAnchorOkUptoCardSaid : Prop := Claim7.holds Tryd.pinned (.plain (OpenSpec.upto fnExactAnchorOkSpec)) fnExactAnchorOkUptoCard
end Rows
end Go.Proofs.YtelnnegfkdfpiaaDoor
