/-
  DERIVED. GIVEN WITH THE SEED: THE CARDS: each row of YtcelgjabccgnmaaDoorRows.lean that lists a variable, with what it lists TIED to the program's text (the seventh form; the later family's looks); each row that meets fmt, with fmt's text TOLD by the authors' own Lean function (tested against real Go, not proved from fmt's source: count such statements apart). THE CARD IS WHAT COUNTS. Prove the row's statement (the work); the ties are given (YtcelgjabccgnmaaDoorTie.lean); close each card by the builder's one call (the guide's Derived/Test/ToyasCard.lean, 'card_holds'). Laid BY PROGRAM, IN A SANDBOX (cutbox-door.mjs). By AI agents, Wed Nov 11 2026. No macro, syntax, notation, axiom, sorry.
-/
import Derived.Test.YtcelgjabccgnmaaDoorRows
import GoSem.ClaimSeven
namespace Go.Proofs.YtcelgjabccgnmaaDoor
namespace Rows

/-- THE TIED CARD OF 'hustingslaw09.ChainNames'. -/
def chainNamesCard : Claim7 := { stood := { row := chainNamesRow, standIns := [], harness := (true, "661bd324ba8d296c7848ab89550589fd2ee23dfc65be9090b3245268138fc542"), looks := true }, kinds := [], alts := [], laidByText := true, laidKinds := [.handle], laidTests := true, laidLooks := .later }
def ChainNamesCardSaid : Prop := Claim7.holds Tryd.pinned (.plain (OpenSpec.ofChange chainNamesSpec)) chainNamesCard

/-- THE TIED CARD OF 'hustingslaw09.ChainFollows'. -/
def chainFollowsCard : Claim7 := { stood := { row := chainFollowsRow, standIns := [], harness := (true, "661bd324ba8d296c7848ab89550589fd2ee23dfc65be9090b3245268138fc542"), looks := true }, kinds := [], alts := [], laidByText := true, laidKinds := [.handle], laidTests := true, laidLooks := .later }
def ChainFollowsCardSaid : Prop := Claim7.holds Tryd.pinned (.plain (OpenSpec.ofChange chainFollowsSpec)) chainFollowsCard

/-- THE TIED CARD OF 'hustingslaw08.RrsetRows'. -/
def rrsetRowsCard : Claim7 := { stood := { row := rrsetRowsRow, standIns := [], harness := (true, "661bd324ba8d296c7848ab89550589fd2ee23dfc65be9090b3245268138fc542"), looks := true }, kinds := [], alts := [], laidByText := true, laidKinds := [.handle], laidTests := true, laidLooks := .later }
def RrsetRowsCardSaid : Prop := Claim7.holds Tryd.pinned (.plain (OpenSpec.ofChange rrsetRowsSpec)) rrsetRowsCard

/-- THE TIED CARD OF 'hustingslaw08.RrsetRise'. -/
def rrsetRiseCard : Claim7 := { stood := { row := rrsetRiseRow, standIns := [], harness := (true, "661bd324ba8d296c7848ab89550589fd2ee23dfc65be9090b3245268138fc542"), looks := true }, kinds := [], alts := [], laidByText := true, laidKinds := [.handle], laidTests := true, laidLooks := .later }
def RrsetRiseCardSaid : Prop := Claim7.holds Tryd.pinned (.plain (OpenSpec.ofChange rrsetRiseSpec)) rrsetRiseCard

/-- THE TIED CARD OF 'hustingslaw08.RrsetLeast'. -/
def rrsetLeastCard : Claim7 := { stood := { row := rrsetLeastRow, standIns := [], harness := (true, "661bd324ba8d296c7848ab89550589fd2ee23dfc65be9090b3245268138fc542"), looks := true }, kinds := [], alts := [], laidByText := true, laidKinds := [.handle], laidTests := true, laidLooks := .later }
def RrsetLeastCardSaid : Prop := Claim7.holds Tryd.pinned (.plain (OpenSpec.ofChange rrsetLeastSpec)) rrsetLeastCard

/-- THE TIED CARD OF 'hustingslaw08.RrsetNames'. -/
def rrsetNamesCard : Claim7 := { stood := { row := rrsetNamesRow, standIns := [], harness := (true, "661bd324ba8d296c7848ab89550589fd2ee23dfc65be9090b3245268138fc542"), looks := true }, kinds := [], alts := [], laidByText := true, laidKinds := [.handle], laidTests := true, laidLooks := .later }
def RrsetNamesCardSaid : Prop := Claim7.holds Tryd.pinned (.plain (OpenSpec.ofChange rrsetNamesSpec)) rrsetNamesCard

/-- THE TIED CARD OF 'hustingslaw08.RrsetBack'. -/
def rrsetBackCard : Claim7 := { stood := { row := rrsetBackRow, standIns := [], harness := (true, "661bd324ba8d296c7848ab89550589fd2ee23dfc65be9090b3245268138fc542"), looks := true }, kinds := [], alts := [], laidByText := true, laidKinds := [.handle], laidTests := true, laidLooks := .later }
def RrsetBackCardSaid : Prop := Claim7.holds Tryd.pinned (.plain (OpenSpec.ofChange rrsetBackSpec)) rrsetBackCard

/-- THE SECOND FORM's CARD OF 'hustingslaw09.ChainNames'. -/
def chainNamesUptoCard : Claim7 := { stood := { row := chainNamesUptoRow, standIns := [], harness := (true, "661bd324ba8d296c7848ab89550589fd2ee23dfc65be9090b3245268138fc542"), looks := true }, kinds := [], alts := [], laidByText := true, laidKinds := [.handle], laidTests := true, laidLooks := .later }
def ChainNamesUptoCardSaid : Prop := Claim7.holds Tryd.pinned (.plain (OpenSpec.upto chainNamesSpec)) chainNamesUptoCard

/-- THE SECOND FORM's CARD OF 'hustingslaw09.ChainFollows'. -/
def chainFollowsUptoCard : Claim7 := { stood := { row := chainFollowsUptoRow, standIns := [], harness := (true, "661bd324ba8d296c7848ab89550589fd2ee23dfc65be9090b3245268138fc542"), looks := true }, kinds := [], alts := [], laidByText := true, laidKinds := [.handle], laidTests := true, laidLooks := .later }
def ChainFollowsUptoCardSaid : Prop := Claim7.holds Tryd.pinned (.plain (OpenSpec.upto chainFollowsSpec)) chainFollowsUptoCard

/-- THE SECOND FORM's CARD OF 'hustingslaw08.RrsetRows'. -/
def rrsetRowsUptoCard : Claim7 := { stood := { row := rrsetRowsUptoRow, standIns := [], harness := (true, "661bd324ba8d296c7848ab89550589fd2ee23dfc65be9090b3245268138fc542"), looks := true }, kinds := [], alts := [], laidByText := true, laidKinds := [.handle], laidTests := true, laidLooks := .later }
def RrsetRowsUptoCardSaid : Prop := Claim7.holds Tryd.pinned (.plain (OpenSpec.upto rrsetRowsSpec)) rrsetRowsUptoCard

/-- THE SECOND FORM's CARD OF 'hustingslaw08.RrsetRise'. -/
def rrsetRiseUptoCard : Claim7 := { stood := { row := rrsetRiseUptoRow, standIns := [], harness := (true, "661bd324ba8d296c7848ab89550589fd2ee23dfc65be9090b3245268138fc542"), looks := true }, kinds := [], alts := [], laidByText := true, laidKinds := [.handle], laidTests := true, laidLooks := .later }
def RrsetRiseUptoCardSaid : Prop := Claim7.holds Tryd.pinned (.plain (OpenSpec.upto rrsetRiseSpec)) rrsetRiseUptoCard

/-- THE SECOND FORM's CARD OF 'hustingslaw08.RrsetLeast'. -/
def rrsetLeastUptoCard : Claim7 := { stood := { row := rrsetLeastUptoRow, standIns := [], harness := (true, "661bd324ba8d296c7848ab89550589fd2ee23dfc65be9090b3245268138fc542"), looks := true }, kinds := [], alts := [], laidByText := true, laidKinds := [.handle], laidTests := true, laidLooks := .later }
def RrsetLeastUptoCardSaid : Prop := Claim7.holds Tryd.pinned (.plain (OpenSpec.upto rrsetLeastSpec)) rrsetLeastUptoCard

/-- THE SECOND FORM's CARD OF 'hustingslaw08.RrsetNames'. -/
def rrsetNamesUptoCard : Claim7 := { stood := { row := rrsetNamesUptoRow, standIns := [], harness := (true, "661bd324ba8d296c7848ab89550589fd2ee23dfc65be9090b3245268138fc542"), looks := true }, kinds := [], alts := [], laidByText := true, laidKinds := [.handle], laidTests := true, laidLooks := .later }
def RrsetNamesUptoCardSaid : Prop := Claim7.holds Tryd.pinned (.plain (OpenSpec.upto rrsetNamesSpec)) rrsetNamesUptoCard

/-- THE SECOND FORM's CARD OF 'hustingslaw08.RrsetBack'. -/
def rrsetBackUptoCard : Claim7 := { stood := { row := rrsetBackUptoRow, standIns := [], harness := (true, "661bd324ba8d296c7848ab89550589fd2ee23dfc65be9090b3245268138fc542"), looks := true }, kinds := [], alts := [], laidByText := true, laidKinds := [.handle], laidTests := true, laidLooks := .later }
def RrsetBackUptoCardSaid : Prop := Claim7.holds Tryd.pinned (.plain (OpenSpec.upto rrsetBackSpec)) rrsetBackUptoCard
end Rows
end Go.Proofs.YtcelgjabccgnmaaDoor
