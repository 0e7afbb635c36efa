/-
  DERIVED. GIVEN WITH THE SEED: THE CARDS: each row of YtfjcbodkjjmagaaDoorRows.lean that lists a variable, with what it lists TIED to the program's text (the seventh form; the later family's looks); each row that meets fmt, with fmt's text TOLD by the authors' own Lean function (tested against real Go, not proved from fmt's source: count such statements apart). THE CARD IS WHAT COUNTS. Prove the row's statement (the work); the ties are given (YtfjcbodkjjmagaaDoorTie.lean); close each card by the builder's one call (the guide's Derived/Test/ToyasCard.lean, 'card_holds'). Laid BY PROGRAM, IN A SANDBOX (cutbox-door.mjs). By AI agents, Wed Nov 11 2026. No macro, syntax, notation, axiom, sorry.
-/
import Derived.Test.YtfjcbodkjjmagaaDoorRows
import GoSem.ClaimSeven
namespace Go.Proofs.YtfjcbodkjjmagaaDoor
namespace Rows

/-- THE TIED CARD OF 'tesseralaw06.NamesStands'. -/
def namesStandsCard : Claim7 := { stood := { row := namesStandsRow, standIns := [], harness := (true, "2bc70ab0efa95f20289aa59a42e9d5c06bf65cbe8e9f19282c3f5e2ecc840c9f"), looks := true }, kinds := [], alts := [], laidByText := true, laidKinds := [.data], laidTests := true, laidLooks := .later }
def NamesStandsCardSaid : Prop := Claim7.holds Tryd.pinned (.plain (OpenSpec.ofChange namesStandsSpec)) namesStandsCard

/-- THE TIED CARD OF 'tesseralaw06.NamesShapes'. -/
def namesShapesCard : Claim7 := { stood := { row := namesShapesRow, standIns := [], harness := (true, "2bc70ab0efa95f20289aa59a42e9d5c06bf65cbe8e9f19282c3f5e2ecc840c9f"), looks := true }, kinds := [], alts := [], laidByText := true, laidKinds := [.data], laidTests := true, laidLooks := .later }
def NamesShapesCardSaid : Prop := Claim7.holds Tryd.pinned (.plain (OpenSpec.ofChange namesShapesSpec)) namesShapesCard

/-- THE TIED CARD OF 'tesseralaw06.NamesSpells'. -/
def namesSpellsCard : Claim7 := { stood := { row := namesSpellsRow, standIns := [], harness := (true, "2bc70ab0efa95f20289aa59a42e9d5c06bf65cbe8e9f19282c3f5e2ecc840c9f"), looks := true }, kinds := [], alts := [], laidByText := true, laidKinds := [.data], laidTests := true, laidLooks := .later }
def NamesSpellsCardSaid : Prop := Claim7.holds Tryd.pinned (.plain (OpenSpec.ofChange namesSpellsSpec)) namesSpellsCard

/-- THE TIED CARD OF 'tesseralaw06.NamesMatches'. -/
def namesMatchesCard : Claim7 := { stood := { row := namesMatchesRow, standIns := [], harness := (true, "2bc70ab0efa95f20289aa59a42e9d5c06bf65cbe8e9f19282c3f5e2ecc840c9f"), looks := true }, kinds := [], alts := [], laidByText := true, laidKinds := [.data, .pinned], laidTests := true, laidLooks := .later }
def NamesMatchesCardSaid : Prop := Claim7.holds Tryd.pinned (.plain (OpenSpec.ofChange namesMatchesSpec)) namesMatchesCard

/-- THE TIED CARD OF 'tesseralaw06.NamesLocals'. -/
def namesLocalsCard : Claim7 := { stood := { row := namesLocalsRow, standIns := [], harness := (true, "2bc70ab0efa95f20289aa59a42e9d5c06bf65cbe8e9f19282c3f5e2ecc840c9f"), looks := true }, kinds := [], alts := [], laidByText := true, laidKinds := [.handle, .data], laidTests := true, laidLooks := .later }
def NamesLocalsCardSaid : Prop := Claim7.holds Tryd.pinned (.plain (OpenSpec.ofChange namesLocalsSpec)) namesLocalsCard

/-- THE TIED CARD OF 'tesseralaw06.NamesTags'. -/
def namesTagsCard : Claim7 := { stood := { row := namesTagsRow, standIns := [], harness := (true, "2bc70ab0efa95f20289aa59a42e9d5c06bf65cbe8e9f19282c3f5e2ecc840c9f"), looks := true }, kinds := [], alts := [], laidByText := true, laidKinds := [.data, .pinned], laidTests := true, laidLooks := .later }
def NamesTagsCardSaid : Prop := Claim7.holds Tryd.pinned (.plain (OpenSpec.ofChange namesTagsSpec)) namesTagsCard

/-- THE TIED CARD OF 'tesseralaw06.NamesBack'. -/
def namesBackCard : Claim7 := { stood := { row := namesBackRow, standIns := [], harness := (true, "2bc70ab0efa95f20289aa59a42e9d5c06bf65cbe8e9f19282c3f5e2ecc840c9f"), looks := true }, kinds := [], alts := [], laidByText := true, laidKinds := [.data, .data, .pinned], laidTests := true, laidLooks := .later }
def NamesBackCardSaid : Prop := Claim7.holds Tryd.pinned (.plain (OpenSpec.ofChange namesBackSpec)) namesBackCard

/-- THE TIED CARD OF 'tesseralaw06.NamesWhole'. -/
def namesWholeCard : Claim7 := { stood := { row := namesWholeRow, standIns := [], harness := (true, "2bc70ab0efa95f20289aa59a42e9d5c06bf65cbe8e9f19282c3f5e2ecc840c9f"), looks := true }, kinds := [], alts := [], laidByText := true, laidKinds := [.data, .data, .pinned], laidTests := true, laidLooks := .later }
def NamesWholeCardSaid : Prop := Claim7.holds Tryd.pinned (.plain (OpenSpec.ofChange namesWholeSpec)) namesWholeCard

/-- THE TIED CARD OF 'tesseralaw06.NamesWider'. -/
def namesWiderCard : Claim7 := { stood := { row := namesWiderRow, standIns := [], harness := (true, "2bc70ab0efa95f20289aa59a42e9d5c06bf65cbe8e9f19282c3f5e2ecc840c9f"), looks := true }, kinds := [], alts := [], laidByText := true, laidKinds := [.data, .data, .pinned], laidTests := true, laidLooks := .later }
def NamesWiderCardSaid : Prop := Claim7.holds Tryd.pinned (.plain (OpenSpec.ofChange namesWiderSpec)) namesWiderCard

/-- THE TIED CARD OF 'tesseralaw06.NamesFinds'. -/
def namesFindsCard : Claim7 := { stood := { row := namesFindsRow, standIns := [], harness := (true, "2bc70ab0efa95f20289aa59a42e9d5c06bf65cbe8e9f19282c3f5e2ecc840c9f"), looks := true }, kinds := [], alts := [], laidByText := true, laidKinds := [.data, .data, .pinned], laidTests := true, laidLooks := .later }
def NamesFindsCardSaid : Prop := Claim7.holds Tryd.pinned (.plain (OpenSpec.ofChange namesFindsSpec)) namesFindsCard

/-- THE SECOND FORM's CARD OF 'tesseralaw06.NamesStands'. -/
def namesStandsUptoCard : Claim7 := { stood := { row := namesStandsUptoRow, standIns := [], harness := (true, "2bc70ab0efa95f20289aa59a42e9d5c06bf65cbe8e9f19282c3f5e2ecc840c9f"), looks := true }, kinds := [], alts := [], laidByText := true, laidKinds := [.data], laidTests := true, laidLooks := .later }
def NamesStandsUptoCardSaid : Prop := Claim7.holds Tryd.pinned (.plain (OpenSpec.upto namesStandsSpec)) namesStandsUptoCard

/-- THE SECOND FORM's CARD OF 'tesseralaw06.NamesShapes'. -/
def namesShapesUptoCard : Claim7 := { stood := { row := namesShapesUptoRow, standIns := [], harness := (true, "2bc70ab0efa95f20289aa59a42e9d5c06bf65cbe8e9f19282c3f5e2ecc840c9f"), looks := true }, kinds := [], alts := [], laidByText := true, laidKinds := [.data], laidTests := true, laidLooks := .later }
def NamesShapesUptoCardSaid : Prop := Claim7.holds Tryd.pinned (.plain (OpenSpec.upto namesShapesSpec)) namesShapesUptoCard

/-- THE SECOND FORM's CARD OF 'tesseralaw06.NamesSpells'. -/
def namesSpellsUptoCard : Claim7 := { stood := { row := namesSpellsUptoRow, standIns := [], harness := (true, "2bc70ab0efa95f20289aa59a42e9d5c06bf65cbe8e9f19282c3f5e2ecc840c9f"), looks := true }, kinds := [], alts := [], laidByText := true, laidKinds := [.data], laidTests := true, laidLooks := .later }
def NamesSpellsUptoCardSaid : Prop := Claim7.holds Tryd.pinned (.plain (OpenSpec.upto namesSpellsSpec)) namesSpellsUptoCard

/-- THE SECOND FORM's CARD OF 'tesseralaw06.NamesMatches'. -/
def namesMatchesUptoCard : Claim7 := { stood := { row := namesMatchesUptoRow, standIns := [], harness := (true, "2bc70ab0efa95f20289aa59a42e9d5c06bf65cbe8e9f19282c3f5e2ecc840c9f"), looks := true }, kinds := [], alts := [], laidByText := true, laidKinds := [.data, .pinned], laidTests := true, laidLooks := .later }
def NamesMatchesUptoCardSaid : Prop := Claim7.holds Tryd.pinned (.plain (OpenSpec.upto namesMatchesSpec)) namesMatchesUptoCard

/-- THE SECOND FORM's CARD OF 'tesseralaw06.NamesLocals'. -/
def namesLocalsUptoCard : Claim7 := { stood := { row := namesLocalsUptoRow, standIns := [], harness := (true, "2bc70ab0efa95f20289aa59a42e9d5c06bf65cbe8e9f19282c3f5e2ecc840c9f"), looks := true }, kinds := [], alts := [], laidByText := true, laidKinds := [.handle, .data], laidTests := true, laidLooks := .later }
def NamesLocalsUptoCardSaid : Prop := Claim7.holds Tryd.pinned (.plain (OpenSpec.upto namesLocalsSpec)) namesLocalsUptoCard

/-- THE SECOND FORM's CARD OF 'tesseralaw06.NamesTags'. -/
def namesTagsUptoCard : Claim7 := { stood := { row := namesTagsUptoRow, standIns := [], harness := (true, "2bc70ab0efa95f20289aa59a42e9d5c06bf65cbe8e9f19282c3f5e2ecc840c9f"), looks := true }, kinds := [], alts := [], laidByText := true, laidKinds := [.data, .pinned], laidTests := true, laidLooks := .later }
def NamesTagsUptoCardSaid : Prop := Claim7.holds Tryd.pinned (.plain (OpenSpec.upto namesTagsSpec)) namesTagsUptoCard

/-- THE SECOND FORM's CARD OF 'tesseralaw06.NamesBack'. -/
def namesBackUptoCard : Claim7 := { stood := { row := namesBackUptoRow, standIns := [], harness := (true, "2bc70ab0efa95f20289aa59a42e9d5c06bf65cbe8e9f19282c3f5e2ecc840c9f"), looks := true }, kinds := [], alts := [], laidByText := true, laidKinds := [.data, .data, .pinned], laidTests := true, laidLooks := .later }
def NamesBackUptoCardSaid : Prop := Claim7.holds Tryd.pinned (.plain (OpenSpec.upto namesBackSpec)) namesBackUptoCard

/-- THE SECOND FORM's CARD OF 'tesseralaw06.NamesWhole'. -/
def namesWholeUptoCard : Claim7 := { stood := { row := namesWholeUptoRow, standIns := [], harness := (true, "2bc70ab0efa95f20289aa59a42e9d5c06bf65cbe8e9f19282c3f5e2ecc840c9f"), looks := true }, kinds := [], alts := [], laidByText := true, laidKinds := [.data, .data, .pinned], laidTests := true, laidLooks := .later }
def NamesWholeUptoCardSaid : Prop := Claim7.holds Tryd.pinned (.plain (OpenSpec.upto namesWholeSpec)) namesWholeUptoCard

/-- THE SECOND FORM's CARD OF 'tesseralaw06.NamesWider'. -/
def namesWiderUptoCard : Claim7 := { stood := { row := namesWiderUptoRow, standIns := [], harness := (true, "2bc70ab0efa95f20289aa59a42e9d5c06bf65cbe8e9f19282c3f5e2ecc840c9f"), looks := true }, kinds := [], alts := [], laidByText := true, laidKinds := [.data, .data, .pinned], laidTests := true, laidLooks := .later }
def NamesWiderUptoCardSaid : Prop := Claim7.holds Tryd.pinned (.plain (OpenSpec.upto namesWiderSpec)) namesWiderUptoCard

/-- THE SECOND FORM's CARD OF 'tesseralaw06.NamesFinds'. -/
def namesFindsUptoCard : Claim7 := { stood := { row := namesFindsUptoRow, standIns := [], harness := (true, "2bc70ab0efa95f20289aa59a42e9d5c06bf65cbe8e9f19282c3f5e2ecc840c9f"), looks := true }, kinds := [], alts := [], laidByText := true, laidKinds := [.data, .data, .pinned], laidTests := true, laidLooks := .later }
def NamesFindsUptoCardSaid : Prop := Claim7.holds Tryd.pinned (.plain (OpenSpec.upto namesFindsSpec)) namesFindsUptoCard
end Rows
end Go.Proofs.YtfjcbodkjjmagaaDoor
