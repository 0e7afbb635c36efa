/-
  DERIVED. GIVEN WITH THE SEED: THE CARDS: each row of YtdegonmkikfghaaGreatDoorRows.lean that lists a variable, with what it lists TIED to the program's text (the seventh form; the later family's looks); each row that meets fmt, with fmt's text TOLD by the authors' own Lean function (tested against real Go, not proved from fmt's source: count such statements apart). THE CARD IS WHAT COUNTS. Prove the row's statement (the work); the ties are given (YtdegonmkikfghaaGreatDoorTie.lean); close each card by the builder's one call (the guide's Derived/Test/ToyasCard.lean, 'card_holds'). Laid BY PROGRAM, IN A SANDBOX (cutbox-door.mjs). By AI agents, Wed Nov 11 2026. No macro, syntax, notation, axiom, sorry.
-/
import Derived.Test.YtdegonmkikfghaaGreatDoorRows
import GoSem.ClaimSeven
namespace Go.Proofs.YtdegonmkikfghaaGreatDoor
namespace Rows

/-- THE TIED CARD OF 'tesseralaw09.NquadsPrints'. -/
def nquadsPrintsCard : Claim7 := { stood := { row := nquadsPrintsRow, standIns := [], harness := (true, "fa274633a0d293c6abe0cd4b401d1e1ea53743e3271eaca481b9777384b123fd"), looks := true }, kinds := [], alts := [], laidByText := true, laidKinds := [.data, .data, .pinned], laidTests := true, laidLooks := .later }
def NquadsPrintsCardSaid : Prop := Claim7.holds Tryz.pinned (.plain (OpenSpec.ofChange nquadsPrintsSpec)) nquadsPrintsCard

/-- THE TIED CARD OF 'tesseralaw09.NquadsLines'. -/
def nquadsLinesCard : Claim7 := { stood := { row := nquadsLinesRow, standIns := [], harness := (true, "fa274633a0d293c6abe0cd4b401d1e1ea53743e3271eaca481b9777384b123fd"), looks := true }, kinds := [], alts := [], laidByText := true, laidKinds := [.data, .data, .pinned], laidTests := true, laidLooks := .later }
def NquadsLinesCardSaid : Prop := Claim7.holds Tryz.pinned (.plain (OpenSpec.ofChange nquadsLinesSpec)) nquadsLinesCard

/-- THE TIED CARD OF 'tesseralaw09.NquadsEach'. -/
def nquadsEachCard : Claim7 := { stood := { row := nquadsEachRow, standIns := [], harness := (true, "fa274633a0d293c6abe0cd4b401d1e1ea53743e3271eaca481b9777384b123fd"), looks := true }, kinds := [], alts := [], laidByText := true, laidKinds := [.data, .handle, .data, .pinned], laidTests := true, laidLooks := .later }
def NquadsEachCardSaid : Prop := Claim7.holds Tryz.pinned (.plain (OpenSpec.ofChange nquadsEachSpec)) nquadsEachCard

/-- THE TIED CARD OF 'tesseralaw09.NquadsParses'. -/
def nquadsParsesCard : Claim7 := { stood := { row := nquadsParsesRow, standIns := [], harness := (true, "fa274633a0d293c6abe0cd4b401d1e1ea53743e3271eaca481b9777384b123fd"), looks := true }, kinds := [], alts := [], laidByText := true, laidKinds := [.data, .handle, .data, .pinned], laidTests := true, laidLooks := .later }
def NquadsParsesCardSaid : Prop := Claim7.holds Tryz.pinned (.plain (OpenSpec.ofChange nquadsParsesSpec)) nquadsParsesCard

/-- THE TIED CARD OF 'tesseralaw09.NquadsBack'. -/
def nquadsBackCard : Claim7 := { stood := { row := nquadsBackRow, standIns := [], harness := (true, "fa274633a0d293c6abe0cd4b401d1e1ea53743e3271eaca481b9777384b123fd"), looks := true }, kinds := [], alts := [], laidByText := true, laidKinds := [.data, .handle, .data, .pinned], laidTests := true, laidLooks := .later }
def NquadsBackCardSaid : Prop := Claim7.holds Tryz.pinned (.plain (OpenSpec.ofChange nquadsBackSpec)) nquadsBackCard

/-- THE TIED CARD OF 'tesseralaw09.NquadsLoose'. -/
def nquadsLooseCard : Claim7 := { stood := { row := nquadsLooseRow, standIns := [], harness := (true, "fa274633a0d293c6abe0cd4b401d1e1ea53743e3271eaca481b9777384b123fd"), looks := true }, kinds := [], alts := [], laidByText := true, laidKinds := [.data, .handle, .data, .pinned], laidTests := true, laidLooks := .later }
def NquadsLooseCardSaid : Prop := Claim7.holds Tryz.pinned (.plain (OpenSpec.ofChange nquadsLooseSpec)) nquadsLooseCard

/-- THE TIED CARD OF 'tesseralaw09.NquadsFirst'. -/
def nquadsFirstCard : Claim7 := { stood := { row := nquadsFirstRow, standIns := [], harness := (true, "fa274633a0d293c6abe0cd4b401d1e1ea53743e3271eaca481b9777384b123fd"), looks := true }, kinds := [], alts := [], laidByText := true, laidKinds := [.data, .handle, .data, .pinned], laidTests := true, laidLooks := .later }
def NquadsFirstCardSaid : Prop := Claim7.holds Tryz.pinned (.plain (OpenSpec.ofChange nquadsFirstSpec)) nquadsFirstCard

/-- THE TIED CARD OF 'tesseralaw09.NquadsJoins'. -/
def nquadsJoinsCard : Claim7 := { stood := { row := nquadsJoinsRow, standIns := [], harness := (true, "fa274633a0d293c6abe0cd4b401d1e1ea53743e3271eaca481b9777384b123fd"), looks := true }, kinds := [], alts := [], laidByText := true, laidKinds := [.data, .handle, .data, .pinned], laidTests := true, laidLooks := .later }
def NquadsJoinsCardSaid : Prop := Claim7.holds Tryz.pinned (.plain (OpenSpec.ofChange nquadsJoinsSpec)) nquadsJoinsCard

/-- THE SECOND FORM's CARD OF 'tesseralaw09.NquadsPrints'. -/
def nquadsPrintsUptoCard : Claim7 := { stood := { row := nquadsPrintsUptoRow, standIns := [], harness := (true, "fa274633a0d293c6abe0cd4b401d1e1ea53743e3271eaca481b9777384b123fd"), looks := true }, kinds := [], alts := [], laidByText := true, laidKinds := [.data, .data, .pinned], laidTests := true, laidLooks := .later }
def NquadsPrintsUptoCardSaid : Prop := Claim7.holds Tryz.pinned (.plain (OpenSpec.upto nquadsPrintsSpec)) nquadsPrintsUptoCard

/-- THE SECOND FORM's CARD OF 'tesseralaw09.NquadsLines'. -/
def nquadsLinesUptoCard : Claim7 := { stood := { row := nquadsLinesUptoRow, standIns := [], harness := (true, "fa274633a0d293c6abe0cd4b401d1e1ea53743e3271eaca481b9777384b123fd"), looks := true }, kinds := [], alts := [], laidByText := true, laidKinds := [.data, .data, .pinned], laidTests := true, laidLooks := .later }
def NquadsLinesUptoCardSaid : Prop := Claim7.holds Tryz.pinned (.plain (OpenSpec.upto nquadsLinesSpec)) nquadsLinesUptoCard

/-- THE SECOND FORM's CARD OF 'tesseralaw09.NquadsEach'. -/
def nquadsEachUptoCard : Claim7 := { stood := { row := nquadsEachUptoRow, standIns := [], harness := (true, "fa274633a0d293c6abe0cd4b401d1e1ea53743e3271eaca481b9777384b123fd"), looks := true }, kinds := [], alts := [], laidByText := true, laidKinds := [.data, .handle, .data, .pinned], laidTests := true, laidLooks := .later }
def NquadsEachUptoCardSaid : Prop := Claim7.holds Tryz.pinned (.plain (OpenSpec.upto nquadsEachSpec)) nquadsEachUptoCard

/-- THE SECOND FORM's CARD OF 'tesseralaw09.NquadsParses'. -/
def nquadsParsesUptoCard : Claim7 := { stood := { row := nquadsParsesUptoRow, standIns := [], harness := (true, "fa274633a0d293c6abe0cd4b401d1e1ea53743e3271eaca481b9777384b123fd"), looks := true }, kinds := [], alts := [], laidByText := true, laidKinds := [.data, .handle, .data, .pinned], laidTests := true, laidLooks := .later }
def NquadsParsesUptoCardSaid : Prop := Claim7.holds Tryz.pinned (.plain (OpenSpec.upto nquadsParsesSpec)) nquadsParsesUptoCard

/-- THE SECOND FORM's CARD OF 'tesseralaw09.NquadsBack'. -/
def nquadsBackUptoCard : Claim7 := { stood := { row := nquadsBackUptoRow, standIns := [], harness := (true, "fa274633a0d293c6abe0cd4b401d1e1ea53743e3271eaca481b9777384b123fd"), looks := true }, kinds := [], alts := [], laidByText := true, laidKinds := [.data, .handle, .data, .pinned], laidTests := true, laidLooks := .later }
def NquadsBackUptoCardSaid : Prop := Claim7.holds Tryz.pinned (.plain (OpenSpec.upto nquadsBackSpec)) nquadsBackUptoCard

/-- THE SECOND FORM's CARD OF 'tesseralaw09.NquadsLoose'. -/
def nquadsLooseUptoCard : Claim7 := { stood := { row := nquadsLooseUptoRow, standIns := [], harness := (true, "fa274633a0d293c6abe0cd4b401d1e1ea53743e3271eaca481b9777384b123fd"), looks := true }, kinds := [], alts := [], laidByText := true, laidKinds := [.data, .handle, .data, .pinned], laidTests := true, laidLooks := .later }
def NquadsLooseUptoCardSaid : Prop := Claim7.holds Tryz.pinned (.plain (OpenSpec.upto nquadsLooseSpec)) nquadsLooseUptoCard

/-- THE SECOND FORM's CARD OF 'tesseralaw09.NquadsFirst'. -/
def nquadsFirstUptoCard : Claim7 := { stood := { row := nquadsFirstUptoRow, standIns := [], harness := (true, "fa274633a0d293c6abe0cd4b401d1e1ea53743e3271eaca481b9777384b123fd"), looks := true }, kinds := [], alts := [], laidByText := true, laidKinds := [.data, .handle, .data, .pinned], laidTests := true, laidLooks := .later }
def NquadsFirstUptoCardSaid : Prop := Claim7.holds Tryz.pinned (.plain (OpenSpec.upto nquadsFirstSpec)) nquadsFirstUptoCard

/-- THE SECOND FORM's CARD OF 'tesseralaw09.NquadsJoins'. -/
def nquadsJoinsUptoCard : Claim7 := { stood := { row := nquadsJoinsUptoRow, standIns := [], harness := (true, "fa274633a0d293c6abe0cd4b401d1e1ea53743e3271eaca481b9777384b123fd"), looks := true }, kinds := [], alts := [], laidByText := true, laidKinds := [.data, .handle, .data, .pinned], laidTests := true, laidLooks := .later }
def NquadsJoinsUptoCardSaid : Prop := Claim7.holds Tryz.pinned (.plain (OpenSpec.upto nquadsJoinsSpec)) nquadsJoinsUptoCard
end Rows
end Go.Proofs.YtdegonmkikfghaaGreatDoor
