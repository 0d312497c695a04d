/-
  DERIVED. GIVEN WITH THE SEED: THE CARDS: each row of YtcelgjabccgnmaaGreatDoorRows.lean that lists a variable, with what it lists TIED to the program's text (the seventh form; the later family's looks); each row that meets fmt, with fmt's text TOLD by the authors' own Lean function (tested against real Go, not proved from fmt's source: count such statements apart). THE CARD IS WHAT COUNTS. Prove the row's statement (the work); the ties are given (YtcelgjabccgnmaaGreatDoorTie.lean); close each card by the builder's one call (the guide's Derived/Test/ToyasCard.lean, 'card_holds'). Laid BY PROGRAM, IN A SANDBOX (cutbox-door.mjs). By AI agents, Wed Nov 11 2026. No macro, syntax, notation, axiom, sorry.
-/
import Derived.Test.YtcelgjabccgnmaaGreatDoorRows
import GoSem.ClaimSeven
namespace Go.Proofs.YtcelgjabccgnmaaGreatDoor
namespace Rows

/-- THE TIED CARD OF 'hustingslaw08.RrsetFinds'. -/
def rrsetFindsCard : Claim7 := { stood := { row := rrsetFindsRow, standIns := [], harness := (true, "066a9c275cc1a8a0ba5613e87abb0057ed231c5c972232bdc790c9e016241746"), looks := true }, kinds := [], alts := [], laidByText := true, laidKinds := [.handle], laidTests := true, laidLooks := .later }
def RrsetFindsCardSaid : Prop := Claim7.holds Tryz.pinned (.plain (OpenSpec.ofChange rrsetFindsSpec)) rrsetFindsCard

/-- THE TIED CARD OF 'hustingslaw08.RrsetLetters'. -/
def rrsetLettersCard : Claim7 := { stood := { row := rrsetLettersRow, standIns := [], harness := (true, "066a9c275cc1a8a0ba5613e87abb0057ed231c5c972232bdc790c9e016241746"), looks := true }, kinds := [], alts := [], laidByText := true, laidKinds := [.handle], laidTests := true, laidLooks := .later }
def RrsetLettersCardSaid : Prop := Claim7.holds Tryz.pinned (.plain (OpenSpec.ofChange rrsetLettersSpec)) rrsetLettersCard

/-- THE TIED CARD OF 'hustingslaw08.RrsetEach'. -/
def rrsetEachCard : Claim7 := { stood := { row := rrsetEachRow, standIns := [], harness := (true, "066a9c275cc1a8a0ba5613e87abb0057ed231c5c972232bdc790c9e016241746"), looks := true }, kinds := [], alts := [], laidByText := true, laidKinds := [.handle], laidTests := true, laidLooks := .later }
def RrsetEachCardSaid : Prop := Claim7.holds Tryz.pinned (.plain (OpenSpec.ofChange rrsetEachSpec)) rrsetEachCard

/-- THE TIED CARD OF 'hustingslaw08.RrsetGroups'. -/
def rrsetGroupsCard : Claim7 := { stood := { row := rrsetGroupsRow, standIns := [], harness := (true, "066a9c275cc1a8a0ba5613e87abb0057ed231c5c972232bdc790c9e016241746"), looks := true }, kinds := [], alts := [], laidByText := true, laidKinds := [.handle], laidTests := true, laidLooks := .later }
def RrsetGroupsCardSaid : Prop := Claim7.holds Tryz.pinned (.plain (OpenSpec.ofChange rrsetGroupsSpec)) rrsetGroupsCard

/-- THE TIED CARD OF 'hustingslaw09.ChainMore'. -/
def chainMoreCard : Claim7 := { stood := { row := chainMoreRow, standIns := [], harness := (true, "066a9c275cc1a8a0ba5613e87abb0057ed231c5c972232bdc790c9e016241746"), looks := true }, kinds := [], alts := [], laidByText := true, laidKinds := [.handle], laidTests := true, laidLooks := .later }
def ChainMoreCardSaid : Prop := Claim7.holds Tryz.pinned (.plain (OpenSpec.ofChange chainMoreSpec)) chainMoreCard

/-- THE TIED CARD OF 'hustingslaw09.ChainWay'. -/
def chainWayCard : Claim7 := { stood := { row := chainWayRow, standIns := [], harness := (true, "066a9c275cc1a8a0ba5613e87abb0057ed231c5c972232bdc790c9e016241746"), looks := true }, kinds := [], alts := [], laidByText := true, laidKinds := [.handle], laidTests := true, laidLooks := .later }
def ChainWayCardSaid : Prop := Claim7.holds Tryz.pinned (.plain (OpenSpec.ofChange chainWaySpec)) chainWayCard

/-- THE TIED CARD OF 'hustingslaw09.ChainEnd'. -/
def chainEndCard : Claim7 := { stood := { row := chainEndRow, standIns := [], harness := (true, "066a9c275cc1a8a0ba5613e87abb0057ed231c5c972232bdc790c9e016241746"), looks := true }, kinds := [], alts := [], laidByText := true, laidKinds := [.handle], laidTests := true, laidLooks := .later }
def ChainEndCardSaid : Prop := Claim7.holds Tryz.pinned (.plain (OpenSpec.ofChange chainEndSpec)) chainEndCard

/-- THE TIED CARD OF 'hustingslaw11.VerdictForm'. -/
def verdictFormCard : Claim7 := { stood := { row := verdictFormRow, standIns := [], harness := (true, "066a9c275cc1a8a0ba5613e87abb0057ed231c5c972232bdc790c9e016241746"), looks := true }, kinds := [], alts := [], laidByText := true, laidKinds := [.handle], laidTests := true, laidLooks := .later }
def VerdictFormCardSaid : Prop := Claim7.holds Tryz.pinned (.plain (OpenSpec.ofChange verdictFormSpec)) verdictFormCard

/-- THE TIED CARD OF 'hustingslaw11.VerdictNames'. -/
def verdictNamesCard : Claim7 := { stood := { row := verdictNamesRow, standIns := [], harness := (true, "066a9c275cc1a8a0ba5613e87abb0057ed231c5c972232bdc790c9e016241746"), looks := true }, kinds := [], alts := [], laidByText := true, laidKinds := [.handle], laidTests := true, laidLooks := .later }
def VerdictNamesCardSaid : Prop := Claim7.holds Tryz.pinned (.plain (OpenSpec.ofChange verdictNamesSpec)) verdictNamesCard

/-- THE TIED CARD OF 'hustingslaw11.VerdictKeys'. -/
def verdictKeysCard : Claim7 := { stood := { row := verdictKeysRow, standIns := [], harness := (true, "066a9c275cc1a8a0ba5613e87abb0057ed231c5c972232bdc790c9e016241746"), looks := true }, kinds := [], alts := [], laidByText := true, laidKinds := [.handle], laidTests := true, laidLooks := .later }
def VerdictKeysCardSaid : Prop := Claim7.holds Tryz.pinned (.plain (OpenSpec.ofChange verdictKeysSpec)) verdictKeysCard

/-- THE TIED CARD OF 'hustingslaw11.VerdictTime'. -/
def verdictTimeCard : Claim7 := { stood := { row := verdictTimeRow, standIns := [], harness := (true, "066a9c275cc1a8a0ba5613e87abb0057ed231c5c972232bdc790c9e016241746"), looks := true }, kinds := [], alts := [], laidByText := true, laidKinds := [.handle], laidTests := true, laidLooks := .later }
def VerdictTimeCardSaid : Prop := Claim7.holds Tryz.pinned (.plain (OpenSpec.ofChange verdictTimeSpec)) verdictTimeCard

/-- THE TIED CARD OF 'hustingslaw11.VerdictTells'. -/
def verdictTellsCard : Claim7 := { stood := { row := verdictTellsRow, standIns := [], harness := (true, "066a9c275cc1a8a0ba5613e87abb0057ed231c5c972232bdc790c9e016241746"), looks := true }, kinds := [], alts := [], laidByText := true, laidKinds := [.handle], laidTests := true, laidLooks := .later }
def VerdictTellsCardSaid : Prop := Claim7.holds Tryz.pinned (.plain (OpenSpec.ofChange verdictTellsSpec)) verdictTellsCard

/-- THE TIED CARD OF 'hustingslaw11.VerdictParts'. -/
def verdictPartsCard : Claim7 := { stood := { row := verdictPartsRow, standIns := [], harness := (true, "066a9c275cc1a8a0ba5613e87abb0057ed231c5c972232bdc790c9e016241746"), looks := true }, kinds := [], alts := [], laidByText := true, laidKinds := [.handle], laidTests := true, laidLooks := .later }
def VerdictPartsCardSaid : Prop := Claim7.holds Tryz.pinned (.plain (OpenSpec.ofChange verdictPartsSpec)) verdictPartsCard

/-- THE SECOND FORM's CARD OF 'hustingslaw08.RrsetFinds'. -/
def rrsetFindsUptoCard : Claim7 := { stood := { row := rrsetFindsUptoRow, standIns := [], harness := (true, "066a9c275cc1a8a0ba5613e87abb0057ed231c5c972232bdc790c9e016241746"), looks := true }, kinds := [], alts := [], laidByText := true, laidKinds := [.handle], laidTests := true, laidLooks := .later }
def RrsetFindsUptoCardSaid : Prop := Claim7.holds Tryz.pinned (.plain (OpenSpec.upto rrsetFindsSpec)) rrsetFindsUptoCard

/-- THE SECOND FORM's CARD OF 'hustingslaw08.RrsetLetters'. -/
def rrsetLettersUptoCard : Claim7 := { stood := { row := rrsetLettersUptoRow, standIns := [], harness := (true, "066a9c275cc1a8a0ba5613e87abb0057ed231c5c972232bdc790c9e016241746"), looks := true }, kinds := [], alts := [], laidByText := true, laidKinds := [.handle], laidTests := true, laidLooks := .later }
def RrsetLettersUptoCardSaid : Prop := Claim7.holds Tryz.pinned (.plain (OpenSpec.upto rrsetLettersSpec)) rrsetLettersUptoCard

/-- THE SECOND FORM's CARD OF 'hustingslaw08.RrsetEach'. -/
def rrsetEachUptoCard : Claim7 := { stood := { row := rrsetEachUptoRow, standIns := [], harness := (true, "066a9c275cc1a8a0ba5613e87abb0057ed231c5c972232bdc790c9e016241746"), looks := true }, kinds := [], alts := [], laidByText := true, laidKinds := [.handle], laidTests := true, laidLooks := .later }
def RrsetEachUptoCardSaid : Prop := Claim7.holds Tryz.pinned (.plain (OpenSpec.upto rrsetEachSpec)) rrsetEachUptoCard

/-- THE SECOND FORM's CARD OF 'hustingslaw08.RrsetGroups'. -/
def rrsetGroupsUptoCard : Claim7 := { stood := { row := rrsetGroupsUptoRow, standIns := [], harness := (true, "066a9c275cc1a8a0ba5613e87abb0057ed231c5c972232bdc790c9e016241746"), looks := true }, kinds := [], alts := [], laidByText := true, laidKinds := [.handle], laidTests := true, laidLooks := .later }
def RrsetGroupsUptoCardSaid : Prop := Claim7.holds Tryz.pinned (.plain (OpenSpec.upto rrsetGroupsSpec)) rrsetGroupsUptoCard

/-- THE SECOND FORM's CARD OF 'hustingslaw09.ChainMore'. -/
def chainMoreUptoCard : Claim7 := { stood := { row := chainMoreUptoRow, standIns := [], harness := (true, "066a9c275cc1a8a0ba5613e87abb0057ed231c5c972232bdc790c9e016241746"), looks := true }, kinds := [], alts := [], laidByText := true, laidKinds := [.handle], laidTests := true, laidLooks := .later }
def ChainMoreUptoCardSaid : Prop := Claim7.holds Tryz.pinned (.plain (OpenSpec.upto chainMoreSpec)) chainMoreUptoCard

/-- THE SECOND FORM's CARD OF 'hustingslaw09.ChainWay'. -/
def chainWayUptoCard : Claim7 := { stood := { row := chainWayUptoRow, standIns := [], harness := (true, "066a9c275cc1a8a0ba5613e87abb0057ed231c5c972232bdc790c9e016241746"), looks := true }, kinds := [], alts := [], laidByText := true, laidKinds := [.handle], laidTests := true, laidLooks := .later }
def ChainWayUptoCardSaid : Prop := Claim7.holds Tryz.pinned (.plain (OpenSpec.upto chainWaySpec)) chainWayUptoCard

/-- THE SECOND FORM's CARD OF 'hustingslaw09.ChainEnd'. -/
def chainEndUptoCard : Claim7 := { stood := { row := chainEndUptoRow, standIns := [], harness := (true, "066a9c275cc1a8a0ba5613e87abb0057ed231c5c972232bdc790c9e016241746"), looks := true }, kinds := [], alts := [], laidByText := true, laidKinds := [.handle], laidTests := true, laidLooks := .later }
def ChainEndUptoCardSaid : Prop := Claim7.holds Tryz.pinned (.plain (OpenSpec.upto chainEndSpec)) chainEndUptoCard

/-- THE SECOND FORM's CARD OF 'hustingslaw11.VerdictForm'. -/
def verdictFormUptoCard : Claim7 := { stood := { row := verdictFormUptoRow, standIns := [], harness := (true, "066a9c275cc1a8a0ba5613e87abb0057ed231c5c972232bdc790c9e016241746"), looks := true }, kinds := [], alts := [], laidByText := true, laidKinds := [.handle], laidTests := true, laidLooks := .later }
def VerdictFormUptoCardSaid : Prop := Claim7.holds Tryz.pinned (.plain (OpenSpec.upto verdictFormSpec)) verdictFormUptoCard

/-- THE SECOND FORM's CARD OF 'hustingslaw11.VerdictNames'. -/
def verdictNamesUptoCard : Claim7 := { stood := { row := verdictNamesUptoRow, standIns := [], harness := (true, "066a9c275cc1a8a0ba5613e87abb0057ed231c5c972232bdc790c9e016241746"), looks := true }, kinds := [], alts := [], laidByText := true, laidKinds := [.handle], laidTests := true, laidLooks := .later }
def VerdictNamesUptoCardSaid : Prop := Claim7.holds Tryz.pinned (.plain (OpenSpec.upto verdictNamesSpec)) verdictNamesUptoCard

/-- THE SECOND FORM's CARD OF 'hustingslaw11.VerdictKeys'. -/
def verdictKeysUptoCard : Claim7 := { stood := { row := verdictKeysUptoRow, standIns := [], harness := (true, "066a9c275cc1a8a0ba5613e87abb0057ed231c5c972232bdc790c9e016241746"), looks := true }, kinds := [], alts := [], laidByText := true, laidKinds := [.handle], laidTests := true, laidLooks := .later }
def VerdictKeysUptoCardSaid : Prop := Claim7.holds Tryz.pinned (.plain (OpenSpec.upto verdictKeysSpec)) verdictKeysUptoCard

/-- THE SECOND FORM's CARD OF 'hustingslaw11.VerdictTime'. -/
def verdictTimeUptoCard : Claim7 := { stood := { row := verdictTimeUptoRow, standIns := [], harness := (true, "066a9c275cc1a8a0ba5613e87abb0057ed231c5c972232bdc790c9e016241746"), looks := true }, kinds := [], alts := [], laidByText := true, laidKinds := [.handle], laidTests := true, laidLooks := .later }
def VerdictTimeUptoCardSaid : Prop := Claim7.holds Tryz.pinned (.plain (OpenSpec.upto verdictTimeSpec)) verdictTimeUptoCard

/-- THE SECOND FORM's CARD OF 'hustingslaw11.VerdictTells'. -/
def verdictTellsUptoCard : Claim7 := { stood := { row := verdictTellsUptoRow, standIns := [], harness := (true, "066a9c275cc1a8a0ba5613e87abb0057ed231c5c972232bdc790c9e016241746"), looks := true }, kinds := [], alts := [], laidByText := true, laidKinds := [.handle], laidTests := true, laidLooks := .later }
def VerdictTellsUptoCardSaid : Prop := Claim7.holds Tryz.pinned (.plain (OpenSpec.upto verdictTellsSpec)) verdictTellsUptoCard

/-- THE SECOND FORM's CARD OF 'hustingslaw11.VerdictParts'. -/
def verdictPartsUptoCard : Claim7 := { stood := { row := verdictPartsUptoRow, standIns := [], harness := (true, "066a9c275cc1a8a0ba5613e87abb0057ed231c5c972232bdc790c9e016241746"), looks := true }, kinds := [], alts := [], laidByText := true, laidKinds := [.handle], laidTests := true, laidLooks := .later }
def VerdictPartsUptoCardSaid : Prop := Claim7.holds Tryz.pinned (.plain (OpenSpec.upto verdictPartsSpec)) verdictPartsUptoCard
end Rows
end Go.Proofs.YtcelgjabccgnmaaGreatDoor
