/-
  DERIVED. GIVEN WITH THE SEED: THE CARDS: each row of YthipcepgbegaiaaGreatDoorRows.lean that lists a variable, with what it lists TIED to the program's text (the seventh form; the later family's looks); each row that meets fmt, with fmt's text TOLD by the authors' own Lean function (tested against real Go, not proved from fmt's source: count such statements apart). THE CARD IS WHAT COUNTS. Prove the row's statement (the work); the ties are given (YthipcepgbegaiaaGreatDoorTie.lean); close each card by the builder's one call (the guide's Derived/Test/ToyasCard.lean, 'card_holds'). Laid BY PROGRAM, IN A SANDBOX (cutbox-door.mjs). By AI agents, Wed Nov 11 2026. No macro, syntax, notation, axiom, sorry.
-/
import Derived.Test.YthipcepgbegaiaaGreatDoorRows
import GoSem.ClaimSeven
namespace Go.Proofs.YthipcepgbegaiaaGreatDoor
namespace Rows

/-- THE TIED CARD OF 'tesseralaw23.PatchMakes'. -/
def patchMakesCard : Claim7 := { stood := { row := patchMakesRow, standIns := [], harness := (true, "4a4dcb994323c109a0ab545df878ccf486bfac8d8815420cc4352a30feb735a8"), looks := true }, kinds := [], alts := [], laidByText := true, laidKinds := [.data, .data, .pinned], laidTests := true, laidLooks := .later }
def PatchMakesCardSaid : Prop := Claim7.holds Tryz.pinned (.plain (OpenSpec.ofChange patchMakesSpec)) patchMakesCard

/-- THE TIED CARD OF 'tesseralaw23.PatchJoins'. -/
def patchJoinsCard : Claim7 := { stood := { row := patchJoinsRow, standIns := [], harness := (true, "4a4dcb994323c109a0ab545df878ccf486bfac8d8815420cc4352a30feb735a8"), looks := true }, kinds := [], alts := [], laidByText := true, laidKinds := [.data, .data, .pinned], laidTests := true, laidLooks := .later }
def PatchJoinsCardSaid : Prop := Claim7.holds Tryz.pinned (.plain (OpenSpec.ofChange patchJoinsSpec)) patchJoinsCard

/-- THE TIED CARD OF 'tesseralaw23.PatchTexts'. -/
def patchTextsCard : Claim7 := { stood := { row := patchTextsRow, standIns := [], harness := (true, "4a4dcb994323c109a0ab545df878ccf486bfac8d8815420cc4352a30feb735a8"), looks := true }, kinds := [], alts := [], laidByText := true, laidKinds := [.data, .handle, .data, .pinned], laidTests := true, laidLooks := .later }
def PatchTextsCardSaid : Prop := Claim7.holds Tryz.pinned (.plain (OpenSpec.ofChange patchTextsSpec)) patchTextsCard

/-- THE TIED CARD OF 'tesseralaw23.PatchDiffs'. -/
def patchDiffsCard : Claim7 := { stood := { row := patchDiffsRow, standIns := [], harness := (true, "4a4dcb994323c109a0ab545df878ccf486bfac8d8815420cc4352a30feb735a8"), looks := true }, kinds := [], alts := [], laidByText := true, laidKinds := [.data, .handle, .data, .pinned], laidTests := true, laidLooks := .later }
def PatchDiffsCardSaid : Prop := Claim7.holds Tryz.pinned (.plain (OpenSpec.ofChange patchDiffsSpec)) patchDiffsCard

/-- THE SECOND FORM's CARD OF 'tesseralaw23.PatchMakes'. -/
def patchMakesUptoCard : Claim7 := { stood := { row := patchMakesUptoRow, standIns := [], harness := (true, "4a4dcb994323c109a0ab545df878ccf486bfac8d8815420cc4352a30feb735a8"), looks := true }, kinds := [], alts := [], laidByText := true, laidKinds := [.data, .data, .pinned], laidTests := true, laidLooks := .later }
def PatchMakesUptoCardSaid : Prop := Claim7.holds Tryz.pinned (.plain (OpenSpec.upto patchMakesSpec)) patchMakesUptoCard

/-- THE SECOND FORM's CARD OF 'tesseralaw23.PatchJoins'. -/
def patchJoinsUptoCard : Claim7 := { stood := { row := patchJoinsUptoRow, standIns := [], harness := (true, "4a4dcb994323c109a0ab545df878ccf486bfac8d8815420cc4352a30feb735a8"), looks := true }, kinds := [], alts := [], laidByText := true, laidKinds := [.data, .data, .pinned], laidTests := true, laidLooks := .later }
def PatchJoinsUptoCardSaid : Prop := Claim7.holds Tryz.pinned (.plain (OpenSpec.upto patchJoinsSpec)) patchJoinsUptoCard

/-- THE SECOND FORM's CARD OF 'tesseralaw23.PatchTexts'. -/
def patchTextsUptoCard : Claim7 := { stood := { row := patchTextsUptoRow, standIns := [], harness := (true, "4a4dcb994323c109a0ab545df878ccf486bfac8d8815420cc4352a30feb735a8"), looks := true }, kinds := [], alts := [], laidByText := true, laidKinds := [.data, .handle, .data, .pinned], laidTests := true, laidLooks := .later }
def PatchTextsUptoCardSaid : Prop := Claim7.holds Tryz.pinned (.plain (OpenSpec.upto patchTextsSpec)) patchTextsUptoCard

/-- THE SECOND FORM's CARD OF 'tesseralaw23.PatchDiffs'. -/
def patchDiffsUptoCard : Claim7 := { stood := { row := patchDiffsUptoRow, standIns := [], harness := (true, "4a4dcb994323c109a0ab545df878ccf486bfac8d8815420cc4352a30feb735a8"), looks := true }, kinds := [], alts := [], laidByText := true, laidKinds := [.data, .handle, .data, .pinned], laidTests := true, laidLooks := .later }
def PatchDiffsUptoCardSaid : Prop := Claim7.holds Tryz.pinned (.plain (OpenSpec.upto patchDiffsSpec)) patchDiffsUptoCard
end Rows
end Go.Proofs.YthipcepgbegaiaaGreatDoor
