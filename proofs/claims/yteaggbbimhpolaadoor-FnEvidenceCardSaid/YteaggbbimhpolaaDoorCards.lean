/-
  DERIVED. GIVEN WITH THE SEED: THE CARDS: each row of YteaggbbimhpolaaDoorRows.lean that lists a variable, with what it lists TIED to the program's text (the seventh form; the later family's looks); each row that meets fmt, with fmt's text TOLD by the authors' own Lean function (tested against real Go, not proved from fmt's source: count such statements apart). THE CARD IS WHAT COUNTS. Prove the row's statement (the work); the ties are given (YteaggbbimhpolaaDoorTie.lean); close each card by the builder's one call (the guide's Derived/Test/ToyasCard.lean, 'card_holds'). Laid BY PROGRAM, IN A SANDBOX (cutbox-door.mjs). By AI agents, Wed Nov 11 2026. No macro, syntax, notation, axiom, sorry.
-/
import Derived.Test.YteaggbbimhpolaaDoorRows
import GoSem.ClaimSeven
namespace Go.Proofs.YteaggbbimhpolaaDoor
namespace Rows

/-- THE TIED CARD OF 'laws.FnExactEvidOk'. -/
def fnExactEvidOkCard : Claim7 := { stood := { row := fnExactEvidOkRow, standIns := [], harness := (true, "477bffd0b83f33b5f3c9f6afb54c9904ab600192406c074c499213b2b6e45a43"), looks := false }, kinds := [], alts := [], laidByText := true, laidKinds := [.data], laidTests := true, laidLooks := .later }
def FnExactEvidOkCardSaid : Prop := Claim7.holds Tryd.pinned (.plain (OpenSpec.ofChange fnExactEvidOkSpec)) fnExactEvidOkCard

/-- THE TIED CARD OF 'laws.FnExactCulprit'. -/
def fnExactCulpritCard : Claim7 := { stood := { row := fnExactCulpritRow, standIns := [], harness := (true, "477bffd0b83f33b5f3c9f6afb54c9904ab600192406c074c499213b2b6e45a43"), looks := false }, kinds := [], alts := [], laidByText := true, laidKinds := [.data], laidTests := true, laidLooks := .later }
def FnExactCulpritCardSaid : Prop := Claim7.holds Tryd.pinned (.plain (OpenSpec.ofChange fnExactCulpritSpec)) fnExactCulpritCard

/-- THE TIED CARD OF 'laws.FnExactFindEvid'. -/
def fnExactFindEvidCard : Claim7 := { stood := { row := fnExactFindEvidRow, standIns := [], harness := (true, "477bffd0b83f33b5f3c9f6afb54c9904ab600192406c074c499213b2b6e45a43"), looks := false }, kinds := [], alts := [], laidByText := true, laidKinds := [.data], laidTests := true, laidLooks := .later }
def FnExactFindEvidCardSaid : Prop := Claim7.holds Tryd.pinned (.plain (OpenSpec.ofChange fnExactFindEvidSpec)) fnExactFindEvidCard

/-- THE TIED CARD OF 'laws.FnExactBlame'. -/
def fnExactBlameCard : Claim7 := { stood := { row := fnExactBlameRow, standIns := [], harness := (true, "477bffd0b83f33b5f3c9f6afb54c9904ab600192406c074c499213b2b6e45a43"), looks := false }, kinds := [], alts := [], laidByText := true, laidKinds := [.data], laidTests := true, laidLooks := .later }
def FnExactBlameCardSaid : Prop := Claim7.holds Tryd.pinned (.plain (OpenSpec.ofChange fnExactBlameSpec)) fnExactBlameCard

/-- THE TIED CARD OF 'laws.FnEvidence'. -/
def fnEvidenceCard : Claim7 := { stood := { row := fnEvidenceRow, standIns := [], harness := (true, "477bffd0b83f33b5f3c9f6afb54c9904ab600192406c074c499213b2b6e45a43"), looks := false }, kinds := [], alts := [], laidByText := true, laidKinds := [.data], laidTests := true, laidLooks := .later }
def FnEvidenceCardSaid : Prop := Claim7.holds Tryd.pinned (.plain (OpenSpec.ofChange fnEvidenceSpec)) fnEvidenceCard

/-- THE SECOND FORM's CARD OF 'laws.FnExactEvidOk'. -/
def fnExactEvidOkUptoCard : Claim7 := { stood := { row := fnExactEvidOkUptoRow, standIns := [], harness := (true, "477bffd0b83f33b5f3c9f6afb54c9904ab600192406c074c499213b2b6e45a43"), looks := false }, kinds := [], alts := [], laidByText := true, laidKinds := [.data], laidTests := true, laidLooks := .later }
def FnExactEvidOkUptoCardSaid : Prop := Claim7.holds Tryd.pinned (.plain (OpenSpec.upto fnExactEvidOkSpec)) fnExactEvidOkUptoCard

/-- THE SECOND FORM's CARD OF 'laws.FnExactCulprit'. -/
def fnExactCulpritUptoCard : Claim7 := { stood := { row := fnExactCulpritUptoRow, standIns := [], harness := (true, "477bffd0b83f33b5f3c9f6afb54c9904ab600192406c074c499213b2b6e45a43"), looks := false }, kinds := [], alts := [], laidByText := true, laidKinds := [.data], laidTests := true, laidLooks := .later }
def FnExactCulpritUptoCardSaid : Prop := Claim7.holds Tryd.pinned (.plain (OpenSpec.upto fnExactCulpritSpec)) fnExactCulpritUptoCard

/-- THE SECOND FORM's CARD OF 'laws.FnExactFindEvid'. -/
def fnExactFindEvidUptoCard : Claim7 := { stood := { row := fnExactFindEvidUptoRow, standIns := [], harness := (true, "477bffd0b83f33b5f3c9f6afb54c9904ab600192406c074c499213b2b6e45a43"), looks := false }, kinds := [], alts := [], laidByText := true, laidKinds := [.data], laidTests := true, laidLooks := .later }
def FnExactFindEvidUptoCardSaid : Prop := Claim7.holds Tryd.pinned (.plain (OpenSpec.upto fnExactFindEvidSpec)) fnExactFindEvidUptoCard

/-- THE SECOND FORM's CARD OF 'laws.FnExactBlame'. -/
def fnExactBlameUptoCard : Claim7 := { stood := { row := fnExactBlameUptoRow, standIns := [], harness := (true, "477bffd0b83f33b5f3c9f6afb54c9904ab600192406c074c499213b2b6e45a43"), looks := false }, kinds := [], alts := [], laidByText := true, laidKinds := [.data], laidTests := true, laidLooks := .later }
def FnExactBlameUptoCardSaid : Prop := Claim7.holds Tryd.pinned (.plain (OpenSpec.upto fnExactBlameSpec)) fnExactBlameUptoCard

/-- THE SECOND FORM's CARD OF 'laws.FnEvidence'. -/
def fnEvidenceUptoCard : Claim7 := { stood := { row := fnEvidenceUptoRow, standIns := [], harness := (true, "477bffd0b83f33b5f3c9f6afb54c9904ab600192406c074c499213b2b6e45a43"), looks := false }, kinds := [], alts := [], laidByText := true, laidKinds := [.data], laidTests := true, laidLooks := .later }
def FnEvidenceUptoCardSaid : Prop := Claim7.holds Tryd.pinned (.plain (OpenSpec.upto fnEvidenceSpec)) fnEvidenceUptoCard
end Rows
end Go.Proofs.YteaggbbimhpolaaDoor
