/-
  DERIVED. GIVEN WITH THE SEED: THE CARDS: each row of YtdhmpakhdhdebaaGreatDoorRows.lean that lists a variable, with what it lists TIED to the program's text (the seventh form; the later family's looks); each row that meets fmt, with fmt's text TOLD by the authors' own Lean function (tested against real Go, not proved from fmt's source: count such statements apart). THE CARD IS WHAT COUNTS. Prove the row's statement (the work); the ties are given (YtdhmpakhdhdebaaGreatDoorTie.lean); close each card by the builder's one call (the guide's Derived/Test/ToyasCard.lean, 'card_holds'). Laid BY PROGRAM, IN A SANDBOX (cutbox-door.mjs). By AI agents, Wed Nov 11 2026. No macro, syntax, notation, axiom, sorry.
-/
import Derived.Test.YtdhmpakhdhdebaaGreatDoorRows
import GoSem.ClaimSeven
namespace Go.Proofs.YtdhmpakhdhdebaaGreatDoor
namespace Rows

/-- THE TIED CARD OF 'tesseralaw26.StreamWrites'. -/
def streamWritesCard : Claim7 := { stood := { row := streamWritesRow, standIns := [], harness := (true, "6e8889ef6fd2e6579935d31f5804f397cc0bca0b50b0cb4db48f7c93c1b7af05"), looks := true }, kinds := [], alts := [], laidByText := true, laidKinds := [.data, .handle, .data, .pinned], laidTests := true, laidLooks := .later }
def StreamWritesCardSaid : Prop := Claim7.holds Tryz.pinned (.plain (OpenSpec.ofChange streamWritesSpec)) streamWritesCard

/-- THE TIED CARD OF 'tesseralaw10.LexisGaps'. -/
def lexisGapsCard : Claim7 := { stood := { row := lexisGapsRow, standIns := [], harness := (true, "6e8889ef6fd2e6579935d31f5804f397cc0bca0b50b0cb4db48f7c93c1b7af05"), looks := true }, kinds := [], alts := [], laidByText := true, laidKinds := [.data, .data, .pinned], laidTests := true, laidLooks := .later }
def LexisGapsCardSaid : Prop := Claim7.holds Tryz.pinned (.plain (OpenSpec.ofChange lexisGapsSpec)) lexisGapsCard

/-- THE TIED CARD OF 'tesseralaw10.LexisEnds'. -/
def lexisEndsCard : Claim7 := { stood := { row := lexisEndsRow, standIns := [], harness := (true, "6e8889ef6fd2e6579935d31f5804f397cc0bca0b50b0cb4db48f7c93c1b7af05"), looks := true }, kinds := [], alts := [], laidByText := true, laidKinds := [.data, .data, .pinned], laidTests := true, laidLooks := .later }
def LexisEndsCardSaid : Prop := Claim7.holds Tryz.pinned (.plain (OpenSpec.ofChange lexisEndsSpec)) lexisEndsCard

/-- THE TIED CARD OF 'tesseralaw10.LexisOnce'. -/
def lexisOnceCard : Claim7 := { stood := { row := lexisOnceRow, standIns := [], harness := (true, "6e8889ef6fd2e6579935d31f5804f397cc0bca0b50b0cb4db48f7c93c1b7af05"), looks := true }, kinds := [], alts := [], laidByText := true, laidKinds := [.data, .data, .pinned], laidTests := true, laidLooks := .later }
def LexisOnceCardSaid : Prop := Claim7.holds Tryz.pinned (.plain (OpenSpec.ofChange lexisOnceSpec)) lexisOnceCard

/-- THE TIED CARD OF 'tesseralaw10.LexisSteps'. -/
def lexisStepsCard : Claim7 := { stood := { row := lexisStepsRow, standIns := [], harness := (true, "6e8889ef6fd2e6579935d31f5804f397cc0bca0b50b0cb4db48f7c93c1b7af05"), looks := true }, kinds := [], alts := [], laidByText := true, laidKinds := [.data, .handle, .data, .pinned], laidTests := true, laidLooks := .later }
def LexisStepsCardSaid : Prop := Claim7.holds Tryz.pinned (.plain (OpenSpec.ofChange lexisStepsSpec)) lexisStepsCard

/-- THE TIED CARD OF 'tesseralaw10.LexisWalks'. -/
def lexisWalksCard : Claim7 := { stood := { row := lexisWalksRow, standIns := [], harness := (true, "6e8889ef6fd2e6579935d31f5804f397cc0bca0b50b0cb4db48f7c93c1b7af05"), looks := true }, kinds := [], alts := [], laidByText := true, laidKinds := [.data, .handle, .data, .pinned], laidTests := true, laidLooks := .later }
def LexisWalksCardSaid : Prop := Claim7.holds Tryz.pinned (.plain (OpenSpec.ofChange lexisWalksSpec)) lexisWalksCard

/-- THE TIED CARD OF 'tesseralaw10.LexisTokens'. -/
def lexisTokensCard : Claim7 := { stood := { row := lexisTokensRow, standIns := [], harness := (true, "6e8889ef6fd2e6579935d31f5804f397cc0bca0b50b0cb4db48f7c93c1b7af05"), looks := true }, kinds := [], alts := [], laidByText := true, laidKinds := [.data, .handle, .data, .pinned], laidTests := true, laidLooks := .later }
def LexisTokensCardSaid : Prop := Claim7.holds Tryz.pinned (.plain (OpenSpec.ofChange lexisTokensSpec)) lexisTokensCard

/-- THE TIED CARD OF 'tesseralaw10.LexisWrites'. -/
def lexisWritesCard : Claim7 := { stood := { row := lexisWritesRow, standIns := [], harness := (true, "6e8889ef6fd2e6579935d31f5804f397cc0bca0b50b0cb4db48f7c93c1b7af05"), looks := true }, kinds := [], alts := [], laidByText := true, laidKinds := [.data, .data, .pinned, .pinned], laidTests := true, laidLooks := .later }
def LexisWritesCardSaid : Prop := Claim7.holds Tryz.pinned (.plain (OpenSpec.ofChange lexisWritesSpec)) lexisWritesCard

/-- THE TIED CARD OF 'tesseralaw10.LexisBack'. -/
def lexisBackCard : Claim7 := { stood := { row := lexisBackRow, standIns := [], harness := (true, "6e8889ef6fd2e6579935d31f5804f397cc0bca0b50b0cb4db48f7c93c1b7af05"), looks := true }, kinds := [], alts := [], laidByText := true, laidKinds := [.data, .data, .pinned, .pinned], laidTests := true, laidLooks := .later }
def LexisBackCardSaid : Prop := Claim7.holds Tryz.pinned (.plain (OpenSpec.ofChange lexisBackSpec)) lexisBackCard

/-- THE SECOND FORM's CARD OF 'tesseralaw26.StreamWrites'. -/
def streamWritesUptoCard : Claim7 := { stood := { row := streamWritesUptoRow, standIns := [], harness := (true, "6e8889ef6fd2e6579935d31f5804f397cc0bca0b50b0cb4db48f7c93c1b7af05"), looks := true }, kinds := [], alts := [], laidByText := true, laidKinds := [.data, .handle, .data, .pinned], laidTests := true, laidLooks := .later }
def StreamWritesUptoCardSaid : Prop := Claim7.holds Tryz.pinned (.plain (OpenSpec.upto streamWritesSpec)) streamWritesUptoCard

/-- THE SECOND FORM's CARD OF 'tesseralaw10.LexisGaps'. -/
def lexisGapsUptoCard : Claim7 := { stood := { row := lexisGapsUptoRow, standIns := [], harness := (true, "6e8889ef6fd2e6579935d31f5804f397cc0bca0b50b0cb4db48f7c93c1b7af05"), looks := true }, kinds := [], alts := [], laidByText := true, laidKinds := [.data, .data, .pinned], laidTests := true, laidLooks := .later }
def LexisGapsUptoCardSaid : Prop := Claim7.holds Tryz.pinned (.plain (OpenSpec.upto lexisGapsSpec)) lexisGapsUptoCard

/-- THE SECOND FORM's CARD OF 'tesseralaw10.LexisEnds'. -/
def lexisEndsUptoCard : Claim7 := { stood := { row := lexisEndsUptoRow, standIns := [], harness := (true, "6e8889ef6fd2e6579935d31f5804f397cc0bca0b50b0cb4db48f7c93c1b7af05"), looks := true }, kinds := [], alts := [], laidByText := true, laidKinds := [.data, .data, .pinned], laidTests := true, laidLooks := .later }
def LexisEndsUptoCardSaid : Prop := Claim7.holds Tryz.pinned (.plain (OpenSpec.upto lexisEndsSpec)) lexisEndsUptoCard

/-- THE SECOND FORM's CARD OF 'tesseralaw10.LexisOnce'. -/
def lexisOnceUptoCard : Claim7 := { stood := { row := lexisOnceUptoRow, standIns := [], harness := (true, "6e8889ef6fd2e6579935d31f5804f397cc0bca0b50b0cb4db48f7c93c1b7af05"), looks := true }, kinds := [], alts := [], laidByText := true, laidKinds := [.data, .data, .pinned], laidTests := true, laidLooks := .later }
def LexisOnceUptoCardSaid : Prop := Claim7.holds Tryz.pinned (.plain (OpenSpec.upto lexisOnceSpec)) lexisOnceUptoCard

/-- THE SECOND FORM's CARD OF 'tesseralaw10.LexisSteps'. -/
def lexisStepsUptoCard : Claim7 := { stood := { row := lexisStepsUptoRow, standIns := [], harness := (true, "6e8889ef6fd2e6579935d31f5804f397cc0bca0b50b0cb4db48f7c93c1b7af05"), looks := true }, kinds := [], alts := [], laidByText := true, laidKinds := [.data, .handle, .data, .pinned], laidTests := true, laidLooks := .later }
def LexisStepsUptoCardSaid : Prop := Claim7.holds Tryz.pinned (.plain (OpenSpec.upto lexisStepsSpec)) lexisStepsUptoCard

/-- THE SECOND FORM's CARD OF 'tesseralaw10.LexisWalks'. -/
def lexisWalksUptoCard : Claim7 := { stood := { row := lexisWalksUptoRow, standIns := [], harness := (true, "6e8889ef6fd2e6579935d31f5804f397cc0bca0b50b0cb4db48f7c93c1b7af05"), looks := true }, kinds := [], alts := [], laidByText := true, laidKinds := [.data, .handle, .data, .pinned], laidTests := true, laidLooks := .later }
def LexisWalksUptoCardSaid : Prop := Claim7.holds Tryz.pinned (.plain (OpenSpec.upto lexisWalksSpec)) lexisWalksUptoCard

/-- THE SECOND FORM's CARD OF 'tesseralaw10.LexisTokens'. -/
def lexisTokensUptoCard : Claim7 := { stood := { row := lexisTokensUptoRow, standIns := [], harness := (true, "6e8889ef6fd2e6579935d31f5804f397cc0bca0b50b0cb4db48f7c93c1b7af05"), looks := true }, kinds := [], alts := [], laidByText := true, laidKinds := [.data, .handle, .data, .pinned], laidTests := true, laidLooks := .later }
def LexisTokensUptoCardSaid : Prop := Claim7.holds Tryz.pinned (.plain (OpenSpec.upto lexisTokensSpec)) lexisTokensUptoCard

/-- THE SECOND FORM's CARD OF 'tesseralaw10.LexisWrites'. -/
def lexisWritesUptoCard : Claim7 := { stood := { row := lexisWritesUptoRow, standIns := [], harness := (true, "6e8889ef6fd2e6579935d31f5804f397cc0bca0b50b0cb4db48f7c93c1b7af05"), looks := true }, kinds := [], alts := [], laidByText := true, laidKinds := [.data, .data, .pinned, .pinned], laidTests := true, laidLooks := .later }
def LexisWritesUptoCardSaid : Prop := Claim7.holds Tryz.pinned (.plain (OpenSpec.upto lexisWritesSpec)) lexisWritesUptoCard

/-- THE SECOND FORM's CARD OF 'tesseralaw10.LexisBack'. -/
def lexisBackUptoCard : Claim7 := { stood := { row := lexisBackUptoRow, standIns := [], harness := (true, "6e8889ef6fd2e6579935d31f5804f397cc0bca0b50b0cb4db48f7c93c1b7af05"), looks := true }, kinds := [], alts := [], laidByText := true, laidKinds := [.data, .data, .pinned, .pinned], laidTests := true, laidLooks := .later }
def LexisBackUptoCardSaid : Prop := Claim7.holds Tryz.pinned (.plain (OpenSpec.upto lexisBackSpec)) lexisBackUptoCard
end Rows
end Go.Proofs.YtdhmpakhdhdebaaGreatDoor
