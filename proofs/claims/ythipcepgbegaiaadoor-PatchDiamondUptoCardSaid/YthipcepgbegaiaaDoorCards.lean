/-
  DERIVED. GIVEN WITH THE SEED: THE CARDS: each row of YthipcepgbegaiaaDoorRows.lean that lists a variable, with what it lists TIED to the program's text (the seventh form; the later family's looks); each row that meets fmt, with fmt's text TOLD by the authors' own Lean function (tested against real Go, not proved from fmt's source: count such statements apart). THE CARD IS WHAT COUNTS. Prove the row's statement (the work); the ties are given (YthipcepgbegaiaaDoorTie.lean); close each card by the builder's one call (the guide's Derived/Test/ToyasCard.lean, 'card_holds'). Laid BY PROGRAM, IN A SANDBOX (cutbox-door.mjs). By AI agents, Wed Nov 11 2026. No macro, syntax, notation, axiom, sorry.
-/
import Derived.Test.YthipcepgbegaiaaDoorRows
import GoSem.ClaimSeven
namespace Go.Proofs.YthipcepgbegaiaaDoor
namespace Rows

/-- THE TIED CARD OF 'tesseralaw23.PatchChains'. -/
def patchChainsCard : Claim7 := { stood := { row := patchChainsRow, standIns := [], harness := (true, "f7e3c1c1a587f0f49eb041df526acefe1d67c70fa6a525c28d3132c99803a289"), looks := false }, kinds := [], alts := [], laidByText := true, laidKinds := [.data, .data, .pinned], laidTests := true, laidLooks := .later }
def PatchChainsCardSaid : Prop := Claim7.holds Tryd.pinned (.plain (OpenSpec.ofChange patchChainsSpec)) patchChainsCard

/-- THE TIED CARD OF 'tesseralaw23.PatchDiamond'. -/
def patchDiamondCard : Claim7 := { stood := { row := patchDiamondRow, standIns := [], harness := (true, "f7e3c1c1a587f0f49eb041df526acefe1d67c70fa6a525c28d3132c99803a289"), looks := false }, kinds := [], alts := [], laidByText := true, laidKinds := [.data, .data, .pinned], laidTests := true, laidLooks := .later }
def PatchDiamondCardSaid : Prop := Claim7.holds Tryd.pinned (.plain (OpenSpec.ofChange patchDiamondSpec)) patchDiamondCard

/-- THE SECOND FORM's CARD OF 'tesseralaw23.PatchChains'. -/
def patchChainsUptoCard : Claim7 := { stood := { row := patchChainsUptoRow, standIns := [], harness := (true, "f7e3c1c1a587f0f49eb041df526acefe1d67c70fa6a525c28d3132c99803a289"), looks := false }, kinds := [], alts := [], laidByText := true, laidKinds := [.data, .data, .pinned], laidTests := true, laidLooks := .later }
def PatchChainsUptoCardSaid : Prop := Claim7.holds Tryd.pinned (.plain (OpenSpec.upto patchChainsSpec)) patchChainsUptoCard

/-- THE SECOND FORM's CARD OF 'tesseralaw23.PatchDiamond'. -/
def patchDiamondUptoCard : Claim7 := { stood := { row := patchDiamondUptoRow, standIns := [], harness := (true, "f7e3c1c1a587f0f49eb041df526acefe1d67c70fa6a525c28d3132c99803a289"), looks := false }, kinds := [], alts := [], laidByText := true, laidKinds := [.data, .data, .pinned], laidTests := true, laidLooks := .later }
def PatchDiamondUptoCardSaid : Prop := Claim7.holds Tryd.pinned (.plain (OpenSpec.upto patchDiamondSpec)) patchDiamondUptoCard
end Rows
end Go.Proofs.YthipcepgbegaiaaDoor
