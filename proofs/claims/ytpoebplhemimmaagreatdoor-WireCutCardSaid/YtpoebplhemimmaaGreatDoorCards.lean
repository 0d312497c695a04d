/-
  DERIVED. GIVEN WITH THE SEED: THE CARDS: each row of YtpoebplhemimmaaGreatDoorRows.lean that lists a variable, with what it lists TIED to the program's text (the seventh form; the later family's looks); each row that meets fmt, with fmt's text TOLD by the authors' own Lean function (tested against real Go, not proved from fmt's source: count such statements apart). THE CARD IS WHAT COUNTS. Prove the row's statement (the work); the ties are given (YtpoebplhemimmaaGreatDoorTie.lean); close each card by the builder's one call (the guide's Derived/Test/ToyasCard.lean, 'card_holds'). Laid BY PROGRAM, IN A SANDBOX (cutbox-door.mjs). By AI agents, Wed Nov 11 2026. No macro, syntax, notation, axiom, sorry.
-/
import Derived.Test.YtpoebplhemimmaaGreatDoorRows
import GoSem.ClaimSeven
namespace Go.Proofs.YtpoebplhemimmaaGreatDoor
namespace Rows

/-- THE TIED CARD OF 'hustingslaw07.WireNames'. -/
def wireNamesCard : Claim7 := { stood := { row := wireNamesRow, standIns := [], harness := (true, "7b2146fda66312647342f0df03a12b2c483b4e11f5fa318b512698e09636fe85"), looks := true }, kinds := [], alts := [], laidByText := true, laidKinds := [.handle, .data, .widerDeep], laidTests := true, laidLooks := .later }
def WireNamesCardSaid : Prop := Claim7.holds Tryz.pinned (.plain (OpenSpec.ofChange wireNamesSpec)) wireNamesCard

/-- THE TIED CARD OF 'hustingslaw07.WireBack'. -/
def wireBackCard : Claim7 := { stood := { row := wireBackRow, standIns := [], harness := (true, "7b2146fda66312647342f0df03a12b2c483b4e11f5fa318b512698e09636fe85"), looks := true }, kinds := [], alts := [], laidByText := true, laidKinds := [.handle, .data, .widerDeep], laidTests := true, laidLooks := .later }
def WireBackCardSaid : Prop := Claim7.holds Tryz.pinned (.plain (OpenSpec.ofChange wireBackSpec)) wireBackCard

/-- THE TIED CARD OF 'hustingslaw07.WireWithin'. -/
def wireWithinCard : Claim7 := { stood := { row := wireWithinRow, standIns := [], harness := (true, "7b2146fda66312647342f0df03a12b2c483b4e11f5fa318b512698e09636fe85"), looks := true }, kinds := [], alts := [], laidByText := true, laidKinds := [.handle, .data, .widerDeep], laidTests := true, laidLooks := .later }
def WireWithinCardSaid : Prop := Claim7.holds Tryz.pinned (.plain (OpenSpec.ofChange wireWithinSpec)) wireWithinCard

/-- THE TIED CARD OF 'hustingslaw07.WireCut'. -/
def wireCutCard : Claim7 := { stood := { row := wireCutRow, standIns := [], harness := (true, "7b2146fda66312647342f0df03a12b2c483b4e11f5fa318b512698e09636fe85"), looks := true }, kinds := [], alts := [], laidByText := true, laidKinds := [.handle, .data, .widerDeep], laidTests := true, laidLooks := .later }
def WireCutCardSaid : Prop := Claim7.holds Tryz.pinned (.plain (OpenSpec.ofChange wireCutSpec)) wireCutCard

/-- THE TIED CARD OF 'hustingslaw07.WireParts'. -/
def wirePartsCard : Claim7 := { stood := { row := wirePartsRow, standIns := [], harness := (true, "7b2146fda66312647342f0df03a12b2c483b4e11f5fa318b512698e09636fe85"), looks := true }, kinds := [], alts := [], laidByText := true, laidKinds := [.handle, .data, .widerDeep], laidTests := true, laidLooks := .later }
def WirePartsCardSaid : Prop := Claim7.holds Tryz.pinned (.plain (OpenSpec.ofChange wirePartsSpec)) wirePartsCard

/-- THE SECOND FORM's CARD OF 'hustingslaw07.WireNames'. -/
def wireNamesUptoCard : Claim7 := { stood := { row := wireNamesUptoRow, standIns := [], harness := (true, "7b2146fda66312647342f0df03a12b2c483b4e11f5fa318b512698e09636fe85"), looks := true }, kinds := [], alts := [], laidByText := true, laidKinds := [.handle, .data, .widerDeep], laidTests := true, laidLooks := .later }
def WireNamesUptoCardSaid : Prop := Claim7.holds Tryz.pinned (.plain (OpenSpec.upto wireNamesSpec)) wireNamesUptoCard

/-- THE SECOND FORM's CARD OF 'hustingslaw07.WireBack'. -/
def wireBackUptoCard : Claim7 := { stood := { row := wireBackUptoRow, standIns := [], harness := (true, "7b2146fda66312647342f0df03a12b2c483b4e11f5fa318b512698e09636fe85"), looks := true }, kinds := [], alts := [], laidByText := true, laidKinds := [.handle, .data, .widerDeep], laidTests := true, laidLooks := .later }
def WireBackUptoCardSaid : Prop := Claim7.holds Tryz.pinned (.plain (OpenSpec.upto wireBackSpec)) wireBackUptoCard

/-- THE SECOND FORM's CARD OF 'hustingslaw07.WireWithin'. -/
def wireWithinUptoCard : Claim7 := { stood := { row := wireWithinUptoRow, standIns := [], harness := (true, "7b2146fda66312647342f0df03a12b2c483b4e11f5fa318b512698e09636fe85"), looks := true }, kinds := [], alts := [], laidByText := true, laidKinds := [.handle, .data, .widerDeep], laidTests := true, laidLooks := .later }
def WireWithinUptoCardSaid : Prop := Claim7.holds Tryz.pinned (.plain (OpenSpec.upto wireWithinSpec)) wireWithinUptoCard

/-- THE SECOND FORM's CARD OF 'hustingslaw07.WireCut'. -/
def wireCutUptoCard : Claim7 := { stood := { row := wireCutUptoRow, standIns := [], harness := (true, "7b2146fda66312647342f0df03a12b2c483b4e11f5fa318b512698e09636fe85"), looks := true }, kinds := [], alts := [], laidByText := true, laidKinds := [.handle, .data, .widerDeep], laidTests := true, laidLooks := .later }
def WireCutUptoCardSaid : Prop := Claim7.holds Tryz.pinned (.plain (OpenSpec.upto wireCutSpec)) wireCutUptoCard

/-- THE SECOND FORM's CARD OF 'hustingslaw07.WireParts'. -/
def wirePartsUptoCard : Claim7 := { stood := { row := wirePartsUptoRow, standIns := [], harness := (true, "7b2146fda66312647342f0df03a12b2c483b4e11f5fa318b512698e09636fe85"), looks := true }, kinds := [], alts := [], laidByText := true, laidKinds := [.handle, .data, .widerDeep], laidTests := true, laidLooks := .later }
def WirePartsUptoCardSaid : Prop := Claim7.holds Tryz.pinned (.plain (OpenSpec.upto wirePartsSpec)) wirePartsUptoCard
end Rows
end Go.Proofs.YtpoebplhemimmaaGreatDoor
