/-
  DERIVED. GIVEN WITH THE SEED: THE CARDS: each row of YtelnnegfkdfpiaaGreatDoorRows.lean that lists a variable, with what it lists TIED to the program's text (the seventh form; the later family's looks); each row that meets fmt, with fmt's text TOLD by the authors' own Lean function (tested against real Go, not proved from fmt's source: count such statements apart). THE CARD IS WHAT COUNTS. Prove the row's statement (the work); the ties are given (YtelnnegfkdfpiaaGreatDoorTie.lean); close each card by the builder's one call (the guide's Derived/Test/ToyasCard.lean, 'card_holds'). Laid BY PROGRAM, IN A SANDBOX (cutbox-door.mjs). By AI agents, Wed Nov 11 2026. No macro, syntax, notation, axiom, sorry.
-/
import Derived.Test.YtelnnegfkdfpiaaGreatDoorRows
import GoSem.ClaimSeven
namespace Go.Proofs.YtelnnegfkdfpiaaGreatDoor
namespace Rows

/-- THE TIED CARD OF 'laws.FnVerify'. -/
def fnVerifyCard : Claim7 := { stood := { row := fnVerifyRow, standIns := [], harness := (true, "faf47b9381ab0454cc94eea788dd0db70ec875b8dc9db6a9f4095eb2c213a0fc"), looks := false }, kinds := [], alts := [], laidByText := true, laidKinds := [.data], laidTests := true, laidLooks := .later }
def FnVerifyCardSaid : Prop := Claim7.holds Tryz.pinned (.plain (OpenSpec.ofChange fnVerifySpec)) fnVerifyCard

/-- THE TIED CARD OF 'laws.FnExactVerify'. -/
def fnExactVerifyCard : Claim7 := { stood := { row := fnExactVerifyRow, standIns := [], harness := (true, "faf47b9381ab0454cc94eea788dd0db70ec875b8dc9db6a9f4095eb2c213a0fc"), looks := false }, kinds := [], alts := [], laidByText := true, laidKinds := [.data], laidTests := true, laidLooks := .later }
def FnExactVerifyCardSaid : Prop := Claim7.holds Tryz.pinned (.plain (OpenSpec.ofChange fnExactVerifySpec)) fnExactVerifyCard

/-- THE SECOND FORM's CARD OF 'laws.FnVerify'. -/
def fnVerifyUptoCard : Claim7 := { stood := { row := fnVerifyUptoRow, standIns := [], harness := (true, "faf47b9381ab0454cc94eea788dd0db70ec875b8dc9db6a9f4095eb2c213a0fc"), looks := false }, kinds := [], alts := [], laidByText := true, laidKinds := [.data], laidTests := true, laidLooks := .later }
def FnVerifyUptoCardSaid : Prop := Claim7.holds Tryz.pinned (.plain (OpenSpec.upto fnVerifySpec)) fnVerifyUptoCard

/-- THE SECOND FORM's CARD OF 'laws.FnExactVerify'. -/
def fnExactVerifyUptoCard : Claim7 := { stood := { row := fnExactVerifyUptoRow, standIns := [], harness := (true, "faf47b9381ab0454cc94eea788dd0db70ec875b8dc9db6a9f4095eb2c213a0fc"), looks := false }, kinds := [], alts := [], laidByText := true, laidKinds := [.data], laidTests := true, laidLooks := .later }
def FnExactVerifyUptoCardSaid : Prop := Claim7.holds Tryz.pinned (.plain (OpenSpec.upto fnExactVerifySpec)) fnExactVerifyUptoCard
end Rows
end Go.Proofs.YtelnnegfkdfpiaaGreatDoor
