/-
  DERIVED. GIVEN WITH THE SEED: THE CARDS: each row of YtjdknaipmboekaaDoorRows.lean that lists a variable, with what it lists TIED to the program's text (the seventh form; the later family's looks); each row that meets fmt, with fmt's text TOLD by the authors' own Lean function (tested against real Go, not proved from fmt's source: count such statements apart). THE CARD IS WHAT COUNTS. Prove the row's statement (the work); the ties are given (YtjdknaipmboekaaDoorTie.lean); close each card by the builder's one call (the guide's Derived/Test/ToyasCard.lean, 'card_holds'). Laid BY PROGRAM, IN A SANDBOX (cutbox-door.mjs). By AI agents, Wed Nov 11 2026. No macro, syntax, notation, axiom, sorry.
-/
import Derived.Test.YtjdknaipmboekaaDoorRows
import GoSem.ClaimSeven
namespace Go.Proofs.YtjdknaipmboekaaDoor
namespace Rows

/-- THE TIED CARD OF 'laws.FnExactStoreOk'. -/
def fnExactStoreOkCard : Claim7 := { stood := { row := fnExactStoreOkRow, standIns := [], harness := (true, "7f8b37dd2362de7e36d784cfd24a489a4dc3856bd4e0fa400ee7c544dace23e0"), looks := false }, kinds := [], alts := [], laidByText := true, laidKinds := [.data], laidTests := true, laidLooks := .later }
def FnExactStoreOkCardSaid : Prop := Claim7.holds Tryd.pinned (.plain (OpenSpec.ofChange fnExactStoreOkSpec)) fnExactStoreOkCard

/-- THE TIED CARD OF 'laws.FnExactStoreGet'. -/
def fnExactStoreGetCard : Claim7 := { stood := { row := fnExactStoreGetRow, standIns := [], harness := (true, "7f8b37dd2362de7e36d784cfd24a489a4dc3856bd4e0fa400ee7c544dace23e0"), looks := false }, kinds := [], alts := [], laidByText := true, laidKinds := [.data], laidTests := true, laidLooks := .later }
def FnExactStoreGetCardSaid : Prop := Claim7.holds Tryd.pinned (.plain (OpenSpec.ofChange fnExactStoreGetSpec)) fnExactStoreGetCard

/-- THE TIED CARD OF 'laws.FnExactStoreSync'. -/
def fnExactStoreSyncCard : Claim7 := { stood := { row := fnExactStoreSyncRow, standIns := [], harness := (true, "7f8b37dd2362de7e36d784cfd24a489a4dc3856bd4e0fa400ee7c544dace23e0"), looks := false }, kinds := [], alts := [], laidByText := true, laidKinds := [.data], laidTests := true, laidLooks := .later }
def FnExactStoreSyncCardSaid : Prop := Claim7.holds Tryd.pinned (.plain (OpenSpec.ofChange fnExactStoreSyncSpec)) fnExactStoreSyncCard

/-- THE TIED CARD OF 'laws.FnExactStoreFall'. -/
def fnExactStoreFallCard : Claim7 := { stood := { row := fnExactStoreFallRow, standIns := [], harness := (true, "7f8b37dd2362de7e36d784cfd24a489a4dc3856bd4e0fa400ee7c544dace23e0"), looks := false }, kinds := [], alts := [], laidByText := true, laidKinds := [.data], laidTests := true, laidLooks := .later }
def FnExactStoreFallCardSaid : Prop := Claim7.holds Tryd.pinned (.plain (OpenSpec.ofChange fnExactStoreFallSpec)) fnExactStoreFallCard

/-- THE TIED CARD OF 'laws.FnExactStoreAdd'. -/
def fnExactStoreAddCard : Claim7 := { stood := { row := fnExactStoreAddRow, standIns := [], harness := (true, "7f8b37dd2362de7e36d784cfd24a489a4dc3856bd4e0fa400ee7c544dace23e0"), looks := false }, kinds := [], alts := [], laidByText := true, laidKinds := [.data], laidTests := true, laidLooks := .later }
def FnExactStoreAddCardSaid : Prop := Claim7.holds Tryd.pinned (.plain (OpenSpec.ofChange fnExactStoreAddSpec)) fnExactStoreAddCard

/-- THE TIED CARD OF 'laws.FnExactStorePrune'. -/
def fnExactStorePruneCard : Claim7 := { stood := { row := fnExactStorePruneRow, standIns := [], harness := (true, "7f8b37dd2362de7e36d784cfd24a489a4dc3856bd4e0fa400ee7c544dace23e0"), looks := false }, kinds := [], alts := [], laidByText := true, laidKinds := [.data], laidTests := true, laidLooks := .later }
def FnExactStorePruneCardSaid : Prop := Claim7.holds Tryd.pinned (.plain (OpenSpec.ofChange fnExactStorePruneSpec)) fnExactStorePruneCard

/-- THE TIED CARD OF 'laws.FnStore'. -/
def fnStoreCard : Claim7 := { stood := { row := fnStoreRow, standIns := [], harness := (true, "7f8b37dd2362de7e36d784cfd24a489a4dc3856bd4e0fa400ee7c544dace23e0"), looks := false }, kinds := [], alts := [], laidByText := true, laidKinds := [.data], laidTests := true, laidLooks := .later }
def FnStoreCardSaid : Prop := Claim7.holds Tryd.pinned (.plain (OpenSpec.ofChange fnStoreSpec)) fnStoreCard

/-- THE SECOND FORM's CARD OF 'laws.FnExactStoreOk'. -/
def fnExactStoreOkUptoCard : Claim7 := { stood := { row := fnExactStoreOkUptoRow, standIns := [], harness := (true, "7f8b37dd2362de7e36d784cfd24a489a4dc3856bd4e0fa400ee7c544dace23e0"), looks := false }, kinds := [], alts := [], laidByText := true, laidKinds := [.data], laidTests := true, laidLooks := .later }
def FnExactStoreOkUptoCardSaid : Prop := Claim7.holds Tryd.pinned (.plain (OpenSpec.upto fnExactStoreOkSpec)) fnExactStoreOkUptoCard

/-- THE SECOND FORM's CARD OF 'laws.FnExactStoreGet'. -/
def fnExactStoreGetUptoCard : Claim7 := { stood := { row := fnExactStoreGetUptoRow, standIns := [], harness := (true, "7f8b37dd2362de7e36d784cfd24a489a4dc3856bd4e0fa400ee7c544dace23e0"), looks := false }, kinds := [], alts := [], laidByText := true, laidKinds := [.data], laidTests := true, laidLooks := .later }
def FnExactStoreGetUptoCardSaid : Prop := Claim7.holds Tryd.pinned (.plain (OpenSpec.upto fnExactStoreGetSpec)) fnExactStoreGetUptoCard

/-- THE SECOND FORM's CARD OF 'laws.FnExactStoreSync'. -/
def fnExactStoreSyncUptoCard : Claim7 := { stood := { row := fnExactStoreSyncUptoRow, standIns := [], harness := (true, "7f8b37dd2362de7e36d784cfd24a489a4dc3856bd4e0fa400ee7c544dace23e0"), looks := false }, kinds := [], alts := [], laidByText := true, laidKinds := [.data], laidTests := true, laidLooks := .later }
def FnExactStoreSyncUptoCardSaid : Prop := Claim7.holds Tryd.pinned (.plain (OpenSpec.upto fnExactStoreSyncSpec)) fnExactStoreSyncUptoCard

/-- THE SECOND FORM's CARD OF 'laws.FnExactStoreFall'. -/
def fnExactStoreFallUptoCard : Claim7 := { stood := { row := fnExactStoreFallUptoRow, standIns := [], harness := (true, "7f8b37dd2362de7e36d784cfd24a489a4dc3856bd4e0fa400ee7c544dace23e0"), looks := false }, kinds := [], alts := [], laidByText := true, laidKinds := [.data], laidTests := true, laidLooks := .later }
def FnExactStoreFallUptoCardSaid : Prop := Claim7.holds Tryd.pinned (.plain (OpenSpec.upto fnExactStoreFallSpec)) fnExactStoreFallUptoCard

/-- THE SECOND FORM's CARD OF 'laws.FnExactStoreAdd'. -/
def fnExactStoreAddUptoCard : Claim7 := { stood := { row := fnExactStoreAddUptoRow, standIns := [], harness := (true, "7f8b37dd2362de7e36d784cfd24a489a4dc3856bd4e0fa400ee7c544dace23e0"), looks := false }, kinds := [], alts := [], laidByText := true, laidKinds := [.data], laidTests := true, laidLooks := .later }
def FnExactStoreAddUptoCardSaid : Prop := Claim7.holds Tryd.pinned (.plain (OpenSpec.upto fnExactStoreAddSpec)) fnExactStoreAddUptoCard

/-- THE SECOND FORM's CARD OF 'laws.FnExactStorePrune'. -/
def fnExactStorePruneUptoCard : Claim7 := { stood := { row := fnExactStorePruneUptoRow, standIns := [], harness := (true, "7f8b37dd2362de7e36d784cfd24a489a4dc3856bd4e0fa400ee7c544dace23e0"), looks := false }, kinds := [], alts := [], laidByText := true, laidKinds := [.data], laidTests := true, laidLooks := .later }
def FnExactStorePruneUptoCardSaid : Prop := Claim7.holds Tryd.pinned (.plain (OpenSpec.upto fnExactStorePruneSpec)) fnExactStorePruneUptoCard

/-- THE SECOND FORM's CARD OF 'laws.FnStore'. -/
def fnStoreUptoCard : Claim7 := { stood := { row := fnStoreUptoRow, standIns := [], harness := (true, "7f8b37dd2362de7e36d784cfd24a489a4dc3856bd4e0fa400ee7c544dace23e0"), looks := false }, kinds := [], alts := [], laidByText := true, laidKinds := [.data], laidTests := true, laidLooks := .later }
def FnStoreUptoCardSaid : Prop := Claim7.holds Tryd.pinned (.plain (OpenSpec.upto fnStoreSpec)) fnStoreUptoCard
end Rows
end Go.Proofs.YtjdknaipmboekaaDoor
