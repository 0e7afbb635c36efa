/-
  NARROWER THAN 'FOR EVERY INPUT', by the rows' own cells (each row's printed sentence says how): NamesStands: laid · NamesShapes: laid · NamesSpells: laid · NamesMatches: laid · NamesLocals: laid · NamesTags: laid · NamesBack: laid · NamesWhole: laid · NamesWider: laid · NamesFinds: laid.
  DERIVED. THE GIVEN ROWS OF THIS SEAT. 10 by the template 'for every input the law returns true; each argument reads behind the call as it read before'; 0 by the template 'total and deterministic' (their statements: YtfjcbodkjjmagaaDoorTotals.lean).
  GIVEN WITH THE SEED: the statements are not yours to turn. If you find one false, say at which input.
  Laid BY PROGRAM, IN A SANDBOX (cutbox-rows.mjs): the forced cells as the released guide's own fill.sh prints them over the translation 89fba71b184ad392… (all of the seat's roots in one cut). By AI agents, Wed Nov 11 2026. No macro, syntax, notation, axiom, sorry.
-/
import Derived.Test.YtfjcbodkjjmagaaDoorChecked
import GoSem.PinnedTables
import GoSem.Claim
import GoSem.ClaimJoined
import GoSem.ClaimMapViews
import Derived.JoinedTies
import Derived.KernelRfl
namespace Go.Proofs.YtfjcbodkjjmagaaDoor
/- THE CELL 'sum', in the pinned program and in every row, IS THE sha256 OF THE DUMP (.gsa) THAT YtfjcbodkjjmagaaDoorProg.lean LOADS. Nothing in Lean hashes anything: it is a label: what it is worth is what the hold of that sum in a sandbox is worth. -/
noncomputable def Tryd.pinned : Pinned := { name := "ytfjcbodkjjmagaadoor", sum := "89fba71b184ad392c7a4fa317a3135a61e2ce9543cebc7ad9c3e90849b9a4737", checked := Tryd.checked }
namespace Rows
def none {H : Type} : Left H := { results := [], args := [] }

/- WHAT THE LISTED PACKAGE-LEVEL VARIABLES READ AS WHEN THE CALL BEGINS. Each datum BY PROGRAM (the guide's laid-datum.mjs) off the statement by which the dump's own 'gosem.cut.vars' lays the variable. In a bare row this is a premise. The card (YtfjcbodkjjmagaaDoorCards.lean) ties it to the program's text. -/
def laid_tessera_names_basesTable {H : Type} : DataW H := .agg [.lit (.int .i32 192), .lit (.int .i32 214), .lit (.int .i32 216), .lit (.int .i32 246), .lit (.int .i32 248), .lit (.int .i32 767), .lit (.int .i32 880), .lit (.int .i32 893), .lit (.int .i32 895), .lit (.int .i32 8191), .lit (.int .i32 8204), .lit (.int .i32 8205), .lit (.int .i32 8304), .lit (.int .i32 8591), .lit (.int .i32 11264), .lit (.int .i32 12271), .lit (.int .i32 12289), .lit (.int .i32 55295), .lit (.int .i32 63744), .lit (.int .i32 64975), .lit (.int .i32 65008), .lit (.int .i32 65533), .lit (.int .i32 65536), .lit (.int .i32 983039)]
def laid_unicode_utf8_acceptRanges {H : Type} : DataW H := .agg [.agg [.lit (.int .u8 128), .lit (.int .u8 191)], .agg [.lit (.int .u8 160), .lit (.int .u8 191)], .agg [.lit (.int .u8 128), .lit (.int .u8 159)], .agg [.lit (.int .u8 144), .lit (.int .u8 191)], .agg [.lit (.int .u8 128), .lit (.int .u8 143)], .agg [.lit (.int .u8 0), .lit (.int .u8 0)], .agg [.lit (.int .u8 0), .lit (.int .u8 0)], .agg [.lit (.int .u8 0), .lit (.int .u8 0)], .agg [.lit (.int .u8 0), .lit (.int .u8 0)], .agg [.lit (.int .u8 0), .lit (.int .u8 0)], .agg [.lit (.int .u8 0), .lit (.int .u8 0)], .agg [.lit (.int .u8 0), .lit (.int .u8 0)], .agg [.lit (.int .u8 0), .lit (.int .u8 0)], .agg [.lit (.int .u8 0), .lit (.int .u8 0)], .agg [.lit (.int .u8 0), .lit (.int .u8 0)], .agg [.lit (.int .u8 0), .lit (.int .u8 0)]]
/-- One of Go's own tables, pinned by name: the form's constant. -/
def laid_unicode_utf8_first : DataW Unit := Go.Pinned.utf8First
def laid_errors_errorType {H : Type} : DataW H := .iface "internal/reflectlite.rtype" (.agg [.ptr (.lit (.string [101, 114, 114, 111, 114]))])

/-- 'tesseralaw06.NamesStands': WHATEVER THE INPUT: true; the input reads as it did. -/
def namesStandsSpec : ChangeSpec := { name := "namesStands", fn := fun _ => fun
  | [d1, d2] => { results := [.lit (.bool true)], args := [d1, d2] }
  | _ => none }
def namesStandsRow : OpenClaim := { program := "ytfjcbodkjjmagaadoor", sum := "89fba71b184ad392c7a4fa317a3135a61e2ce9543cebc7ad9c3e90849b9a4737", func := "tessera/tesseralaw06.NamesStands", spec := "namesStands", unfollowed := true, recurses := true, named := ["tessera/names.basesTable"], apart := false, laid := [("tessera/names.basesTable", laid_tessera_names_basesTable)] }
def NamesStandsSaid : Prop := namesStandsRow.holds Tryd.pinned (OpenSpec.ofChange namesStandsSpec)

/-- ITS FALSE NEIGHBOUR: 'it returns false'. Refute it at one input. -/
def namesStandsWrong : ChangeSpec := { name := "namesStands", fn := fun _ => fun
  | [d1, d2] => { results := [.lit (.bool false)], args := [d1, d2] }
  | _ => none }
def NamesStandsWrongFalsely : Prop := namesStandsRow.holds Tryd.pinned (OpenSpec.ofChange namesStandsWrong)

/-- 'tesseralaw06.NamesShapes': WHATEVER THE INPUT: true; the input reads as it did. -/
def namesShapesSpec : ChangeSpec := { name := "namesShapes", fn := fun _ => fun
  | [d] => { results := [.lit (.bool true)], args := [d] }
  | _ => none }
def namesShapesRow : OpenClaim := { program := "ytfjcbodkjjmagaadoor", sum := "89fba71b184ad392c7a4fa317a3135a61e2ce9543cebc7ad9c3e90849b9a4737", func := "tessera/tesseralaw06.NamesShapes", spec := "namesShapes", unfollowed := true, recurses := true, named := ["tessera/names.basesTable"], apart := false, laid := [("tessera/names.basesTable", laid_tessera_names_basesTable)] }
def NamesShapesSaid : Prop := namesShapesRow.holds Tryd.pinned (OpenSpec.ofChange namesShapesSpec)

/-- ITS FALSE NEIGHBOUR: 'it returns false'. Refute it at one input. -/
def namesShapesWrong : ChangeSpec := { name := "namesShapes", fn := fun _ => fun
  | [d] => { results := [.lit (.bool false)], args := [d] }
  | _ => none }
def NamesShapesWrongFalsely : Prop := namesShapesRow.holds Tryd.pinned (OpenSpec.ofChange namesShapesWrong)

/-- 'tesseralaw06.NamesSpells': WHATEVER THE INPUT: true; the input reads as it did. -/
def namesSpellsSpec : ChangeSpec := { name := "namesSpells", fn := fun _ => fun
  | [d] => { results := [.lit (.bool true)], args := [d] }
  | _ => none }
def namesSpellsRow : OpenClaim := { program := "ytfjcbodkjjmagaadoor", sum := "89fba71b184ad392c7a4fa317a3135a61e2ce9543cebc7ad9c3e90849b9a4737", func := "tessera/tesseralaw06.NamesSpells", spec := "namesSpells", inPlace := ["internal/abi.NoEscape", "internal/bytealg.IndexByteString"], named := ["tessera/names.basesTable"], apart := false, laid := [("tessera/names.basesTable", laid_tessera_names_basesTable)] }
def NamesSpellsSaid : Prop := namesSpellsRow.holds Tryd.pinned (OpenSpec.ofChange namesSpellsSpec)

/-- ITS FALSE NEIGHBOUR: 'it returns false'. Refute it at one input. -/
def namesSpellsWrong : ChangeSpec := { name := "namesSpells", fn := fun _ => fun
  | [d] => { results := [.lit (.bool false)], args := [d] }
  | _ => none }
def NamesSpellsWrongFalsely : Prop := namesSpellsRow.holds Tryd.pinned (OpenSpec.ofChange namesSpellsWrong)

/-- 'tesseralaw06.NamesMatches': WHATEVER THE INPUT: true; the input reads as it did. -/
def namesMatchesSpec : ChangeSpec := { name := "namesMatches", fn := fun _ => fun
  | [d1, d2] => { results := [.lit (.bool true)], args := [d1, d2] }
  | _ => none }
def namesMatchesRow : OpenClaim := { program := "ytfjcbodkjjmagaadoor", sum := "89fba71b184ad392c7a4fa317a3135a61e2ce9543cebc7ad9c3e90849b9a4737", func := "tessera/tesseralaw06.NamesMatches", spec := "namesMatches", inPlace := ["internal/bytealg.CountString", "internal/bytealg.IndexByteString", "internal/bytealg.IndexString"], named := ["unicode/utf8.first", "unicode/utf8.acceptRanges", "internal/bytealg.MaxLen"], apart := false, laid := [("unicode/utf8.acceptRanges", laid_unicode_utf8_acceptRanges), ("unicode/utf8.first", laid_unicode_utf8_first)] }
def NamesMatchesSaid : Prop := namesMatchesRow.holds Tryd.pinned (OpenSpec.ofChange namesMatchesSpec)

/-- ITS FALSE NEIGHBOUR: 'it returns false'. Refute it at one input. -/
def namesMatchesWrong : ChangeSpec := { name := "namesMatches", fn := fun _ => fun
  | [d1, d2] => { results := [.lit (.bool false)], args := [d1, d2] }
  | _ => none }
def NamesMatchesWrongFalsely : Prop := namesMatchesRow.holds Tryd.pinned (OpenSpec.ofChange namesMatchesWrong)

/-- 'tesseralaw06.NamesLocals': WHATEVER THE INPUT: true; the input reads as it did. -/
def namesLocalsSpec : ChangeSpec := { name := "namesLocals", fn := fun _ => fun
  | [d] => { results := [.lit (.bool true)], args := [d] }
  | _ => none }
def namesLocalsRow : OpenClaim := { program := "ytfjcbodkjjmagaadoor", sum := "89fba71b184ad392c7a4fa317a3135a61e2ce9543cebc7ad9c3e90849b9a4737", func := "tessera/tesseralaw06.NamesLocals", spec := "namesLocals", inPlace := ["internal/bytealg.IndexByteString", "internal/abi.NoEscape", "internal/reflectlite.ValueOf", "(internal/reflectlite.Value).Type", "(internal/reflectlite.Value).IsNil", "internal/reflectlite.TypeOf", "(internal/reflectlite.Value).Elem", "(internal/reflectlite.Value).Set"], unfollowed := true, recurses := true, named := ["tessera/names.basesTable", "errors.errorType"], apart := false, laid := [("errors.errorType", laid_errors_errorType), ("tessera/names.basesTable", laid_tessera_names_basesTable)] }
def NamesLocalsSaid : Prop := namesLocalsRow.holds Tryd.pinned (OpenSpec.ofChange namesLocalsSpec)

/-- ITS FALSE NEIGHBOUR: 'it returns false'. Refute it at one input. -/
def namesLocalsWrong : ChangeSpec := { name := "namesLocals", fn := fun _ => fun
  | [d] => { results := [.lit (.bool false)], args := [d] }
  | _ => none }
def NamesLocalsWrongFalsely : Prop := namesLocalsRow.holds Tryd.pinned (OpenSpec.ofChange namesLocalsWrong)

/-- 'tesseralaw06.NamesTags': WHATEVER THE INPUT: true; the input reads as it did. -/
def namesTagsSpec : ChangeSpec := { name := "namesTags", fn := fun _ => fun
  | [d] => { results := [.lit (.bool true)], args := [d] }
  | _ => none }
def namesTagsRow : OpenClaim := { program := "ytfjcbodkjjmagaadoor", sum := "89fba71b184ad392c7a4fa317a3135a61e2ce9543cebc7ad9c3e90849b9a4737", func := "tessera/tesseralaw06.NamesTags", spec := "namesTags", inPlace := ["internal/bytealg.CountString", "internal/bytealg.IndexByteString", "internal/bytealg.IndexString", "internal/abi.NoEscape", "internal/bytealg.MakeNoZero"], unfollowed := true, recurses := true, named := ["unicode/utf8.first", "unicode/utf8.acceptRanges", "internal/bytealg.MaxLen"], apart := false, laid := [("unicode/utf8.acceptRanges", laid_unicode_utf8_acceptRanges), ("unicode/utf8.first", laid_unicode_utf8_first)] }
def NamesTagsSaid : Prop := namesTagsRow.holds Tryd.pinned (OpenSpec.ofChange namesTagsSpec)

/-- ITS FALSE NEIGHBOUR: 'it returns false'. Refute it at one input. -/
def namesTagsWrong : ChangeSpec := { name := "namesTags", fn := fun _ => fun
  | [d] => { results := [.lit (.bool false)], args := [d] }
  | _ => none }
def NamesTagsWrongFalsely : Prop := namesTagsRow.holds Tryd.pinned (OpenSpec.ofChange namesTagsWrong)

/-- 'tesseralaw06.NamesBack': WHATEVER THE INPUT: true; the input reads as it did. -/
def namesBackSpec : ChangeSpec := { name := "namesBack", fn := fun _ => fun
  | [d] => { results := [.lit (.bool true)], args := [d] }
  | _ => none }
def namesBackRow : OpenClaim := { program := "ytfjcbodkjjmagaadoor", sum := "89fba71b184ad392c7a4fa317a3135a61e2ce9543cebc7ad9c3e90849b9a4737", func := "tessera/tesseralaw06.NamesBack", spec := "namesBack", inPlace := ["internal/bytealg.IndexByteString", "internal/abi.NoEscape", "internal/bytealg.CountString", "internal/bytealg.IndexString", "internal/bytealg.MakeNoZero"], unfollowed := true, recurses := true, named := ["tessera/names.basesTable", "unicode/utf8.first", "unicode/utf8.acceptRanges", "internal/bytealg.MaxLen"], apart := false, laid := [("unicode/utf8.acceptRanges", laid_unicode_utf8_acceptRanges), ("tessera/names.basesTable", laid_tessera_names_basesTable), ("unicode/utf8.first", laid_unicode_utf8_first)] }
def NamesBackSaid : Prop := namesBackRow.holds Tryd.pinned (OpenSpec.ofChange namesBackSpec)

/-- ITS FALSE NEIGHBOUR: 'it returns false'. Refute it at one input. -/
def namesBackWrong : ChangeSpec := { name := "namesBack", fn := fun _ => fun
  | [d] => { results := [.lit (.bool false)], args := [d] }
  | _ => none }
def NamesBackWrongFalsely : Prop := namesBackRow.holds Tryd.pinned (OpenSpec.ofChange namesBackWrong)

/-- 'tesseralaw06.NamesWhole': WHATEVER THE INPUT: true; the input reads as it did. -/
def namesWholeSpec : ChangeSpec := { name := "namesWhole", fn := fun _ => fun
  | [d] => { results := [.lit (.bool true)], args := [d] }
  | _ => none }
def namesWholeRow : OpenClaim := { program := "ytfjcbodkjjmagaadoor", sum := "89fba71b184ad392c7a4fa317a3135a61e2ce9543cebc7ad9c3e90849b9a4737", func := "tessera/tesseralaw06.NamesWhole", spec := "namesWhole", inPlace := ["internal/bytealg.IndexByteString", "internal/abi.NoEscape", "internal/bytealg.CountString", "internal/bytealg.IndexString", "internal/bytealg.MakeNoZero"], unfollowed := true, recurses := true, named := ["tessera/names.basesTable", "unicode/utf8.first", "unicode/utf8.acceptRanges", "internal/bytealg.MaxLen"], apart := false, laid := [("unicode/utf8.acceptRanges", laid_unicode_utf8_acceptRanges), ("tessera/names.basesTable", laid_tessera_names_basesTable), ("unicode/utf8.first", laid_unicode_utf8_first)] }
def NamesWholeSaid : Prop := namesWholeRow.holds Tryd.pinned (OpenSpec.ofChange namesWholeSpec)

/-- ITS FALSE NEIGHBOUR: 'it returns false'. Refute it at one input. -/
def namesWholeWrong : ChangeSpec := { name := "namesWhole", fn := fun _ => fun
  | [d] => { results := [.lit (.bool false)], args := [d] }
  | _ => none }
def NamesWholeWrongFalsely : Prop := namesWholeRow.holds Tryd.pinned (OpenSpec.ofChange namesWholeWrong)

/-- 'tesseralaw06.NamesWider': WHATEVER THE INPUT: true; the input reads as it did. -/
def namesWiderSpec : ChangeSpec := { name := "namesWider", fn := fun _ => fun
  | [d1, d2] => { results := [.lit (.bool true)], args := [d1, d2] }
  | _ => none }
def namesWiderRow : OpenClaim := { program := "ytfjcbodkjjmagaadoor", sum := "89fba71b184ad392c7a4fa317a3135a61e2ce9543cebc7ad9c3e90849b9a4737", func := "tessera/tesseralaw06.NamesWider", spec := "namesWider", inPlace := ["internal/bytealg.IndexByteString", "internal/abi.NoEscape", "internal/bytealg.CountString", "internal/bytealg.IndexString", "internal/bytealg.MakeNoZero"], unfollowed := true, recurses := true, named := ["tessera/names.basesTable", "unicode/utf8.first", "unicode/utf8.acceptRanges", "internal/bytealg.MaxLen"], apart := false, laid := [("unicode/utf8.acceptRanges", laid_unicode_utf8_acceptRanges), ("tessera/names.basesTable", laid_tessera_names_basesTable), ("unicode/utf8.first", laid_unicode_utf8_first)] }
def NamesWiderSaid : Prop := namesWiderRow.holds Tryd.pinned (OpenSpec.ofChange namesWiderSpec)

/-- ITS FALSE NEIGHBOUR: 'it returns false'. Refute it at one input. -/
def namesWiderWrong : ChangeSpec := { name := "namesWider", fn := fun _ => fun
  | [d1, d2] => { results := [.lit (.bool false)], args := [d1, d2] }
  | _ => none }
def NamesWiderWrongFalsely : Prop := namesWiderRow.holds Tryd.pinned (OpenSpec.ofChange namesWiderWrong)

/-- 'tesseralaw06.NamesFinds': WHATEVER THE INPUT: true; the input reads as it did. -/
def namesFindsSpec : ChangeSpec := { name := "namesFinds", fn := fun _ => fun
  | [d1, d2] => { results := [.lit (.bool true)], args := [d1, d2] }
  | _ => none }
def namesFindsRow : OpenClaim := { program := "ytfjcbodkjjmagaadoor", sum := "89fba71b184ad392c7a4fa317a3135a61e2ce9543cebc7ad9c3e90849b9a4737", func := "tessera/tesseralaw06.NamesFinds", spec := "namesFinds", inPlace := ["internal/bytealg.IndexByteString", "internal/abi.NoEscape", "internal/bytealg.CountString", "internal/bytealg.IndexString", "internal/bytealg.MakeNoZero"], unfollowed := true, recurses := true, named := ["tessera/names.basesTable", "unicode/utf8.first", "unicode/utf8.acceptRanges", "internal/bytealg.MaxLen"], apart := false, laid := [("unicode/utf8.acceptRanges", laid_unicode_utf8_acceptRanges), ("tessera/names.basesTable", laid_tessera_names_basesTable), ("unicode/utf8.first", laid_unicode_utf8_first)] }
def NamesFindsSaid : Prop := namesFindsRow.holds Tryd.pinned (OpenSpec.ofChange namesFindsSpec)

/-- ITS FALSE NEIGHBOUR: 'it returns false'. Refute it at one input. -/
def namesFindsWrong : ChangeSpec := { name := "namesFinds", fn := fun _ => fun
  | [d1, d2] => { results := [.lit (.bool false)], args := [d1, d2] }
  | _ => none }
def NamesFindsWrongFalsely : Prop := namesFindsRow.holds Tryd.pinned (OpenSpec.ofChange namesFindsWrong)

/- THE SECOND FORM. 'bulk': how many values and letters a reading holds, each counted each time it is reached (what is shared counts as often as it is met; a slice's spare places count too). A statement '..UptoSaid' is the law's where the arguments, and the package variables that the reading takes, are together of bulk at most 1048576: NARROWER than '..Said'. Prove '..Said' where nothing that the law and all that it calls make is longer than what came in: it says more and counts as full. Else prove '..UptoSaid'. A law counts once. -/
mutual
def uptoBulk {H : Type} : DataW H → Nat
  | .lit (.string bytes) => bytes.length + 1
  | .lit _ => 1
  | .nil => 1
  | .ptr d => uptoBulk d + 1
  | .slice elems spare => uptoBulkAll elems + uptoBulkAll spare + 1
  | .agg parts => uptoBulkAll parts + 1
  | .iface _ d => uptoBulk d + 1
  | .map entries => uptoBulkEntries entries + 1
  | .held _ => 1
def uptoBulkAll {H : Type} : List (DataW H) → Nat
  | [] => 0
  | d :: r => uptoBulk d + uptoBulkAll r
def uptoBulkEntries {H : Type} : List (Lit × DataW H) → Nat
  | [] => 0
  | x :: r => uptoBulkEntry x + uptoBulkEntries r
def uptoBulkEntry {H : Type} : Lit × DataW H → Nat
  | (.string bytes, d) => bytes.length + uptoBulk d + 1
  | (_, d) => uptoBulk d + 1
 end
def uptoSmall : (H : Type) → List (DataW H) → Bool := fun _ ds => decide (uptoBulkAll ds ≤ 1048576)
def OpenSpec.upto (s : _root_.Go.ChangeSpec) : _root_.Go.OpenSpec := { _root_.Go.OpenSpec.ofChange s with cond := some uptoSmall }

/-- 'tesseralaw06.NamesStands', WHERE WHAT IT READS IS OF BULK AT MOST 1048576: true; the input reads as it did. -/
def namesStandsUptoRow : OpenClaim := { program := "ytfjcbodkjjmagaadoor", sum := "89fba71b184ad392c7a4fa317a3135a61e2ce9543cebc7ad9c3e90849b9a4737", func := "tessera/tesseralaw06.NamesStands", spec := "namesStands", unfollowed := true, recurses := true, named := ["tessera/names.basesTable"], apart := false, laid := [("tessera/names.basesTable", laid_tessera_names_basesTable)], narrowed := true }
def NamesStandsUptoSaid : Prop := namesStandsUptoRow.holds Tryd.pinned (OpenSpec.upto namesStandsSpec)

/-- 'tesseralaw06.NamesShapes', WHERE WHAT IT READS IS OF BULK AT MOST 1048576: true; the input reads as it did. -/
def namesShapesUptoRow : OpenClaim := { program := "ytfjcbodkjjmagaadoor", sum := "89fba71b184ad392c7a4fa317a3135a61e2ce9543cebc7ad9c3e90849b9a4737", func := "tessera/tesseralaw06.NamesShapes", spec := "namesShapes", unfollowed := true, recurses := true, named := ["tessera/names.basesTable"], apart := false, laid := [("tessera/names.basesTable", laid_tessera_names_basesTable)], narrowed := true }
def NamesShapesUptoSaid : Prop := namesShapesUptoRow.holds Tryd.pinned (OpenSpec.upto namesShapesSpec)

/-- 'tesseralaw06.NamesSpells', WHERE WHAT IT READS IS OF BULK AT MOST 1048576: true; the input reads as it did. -/
def namesSpellsUptoRow : OpenClaim := { program := "ytfjcbodkjjmagaadoor", sum := "89fba71b184ad392c7a4fa317a3135a61e2ce9543cebc7ad9c3e90849b9a4737", func := "tessera/tesseralaw06.NamesSpells", spec := "namesSpells", inPlace := ["internal/abi.NoEscape", "internal/bytealg.IndexByteString"], named := ["tessera/names.basesTable"], apart := false, laid := [("tessera/names.basesTable", laid_tessera_names_basesTable)], narrowed := true }
def NamesSpellsUptoSaid : Prop := namesSpellsUptoRow.holds Tryd.pinned (OpenSpec.upto namesSpellsSpec)

/-- 'tesseralaw06.NamesMatches', WHERE WHAT IT READS IS OF BULK AT MOST 1048576: true; the input reads as it did. -/
def namesMatchesUptoRow : OpenClaim := { program := "ytfjcbodkjjmagaadoor", sum := "89fba71b184ad392c7a4fa317a3135a61e2ce9543cebc7ad9c3e90849b9a4737", func := "tessera/tesseralaw06.NamesMatches", spec := "namesMatches", inPlace := ["internal/bytealg.CountString", "internal/bytealg.IndexByteString", "internal/bytealg.IndexString"], named := ["unicode/utf8.first", "unicode/utf8.acceptRanges", "internal/bytealg.MaxLen"], apart := false, laid := [("unicode/utf8.acceptRanges", laid_unicode_utf8_acceptRanges), ("unicode/utf8.first", laid_unicode_utf8_first)], narrowed := true }
def NamesMatchesUptoSaid : Prop := namesMatchesUptoRow.holds Tryd.pinned (OpenSpec.upto namesMatchesSpec)

/-- 'tesseralaw06.NamesLocals', WHERE WHAT IT READS IS OF BULK AT MOST 1048576: true; the input reads as it did. -/
def namesLocalsUptoRow : OpenClaim := { program := "ytfjcbodkjjmagaadoor", sum := "89fba71b184ad392c7a4fa317a3135a61e2ce9543cebc7ad9c3e90849b9a4737", func := "tessera/tesseralaw06.NamesLocals", spec := "namesLocals", inPlace := ["internal/bytealg.IndexByteString", "internal/abi.NoEscape", "internal/reflectlite.ValueOf", "(internal/reflectlite.Value).Type", "(internal/reflectlite.Value).IsNil", "internal/reflectlite.TypeOf", "(internal/reflectlite.Value).Elem", "(internal/reflectlite.Value).Set"], unfollowed := true, recurses := true, named := ["tessera/names.basesTable", "errors.errorType"], apart := false, laid := [("errors.errorType", laid_errors_errorType), ("tessera/names.basesTable", laid_tessera_names_basesTable)], narrowed := true }
def NamesLocalsUptoSaid : Prop := namesLocalsUptoRow.holds Tryd.pinned (OpenSpec.upto namesLocalsSpec)

/-- 'tesseralaw06.NamesTags', WHERE WHAT IT READS IS OF BULK AT MOST 1048576: true; the input reads as it did. -/
def namesTagsUptoRow : OpenClaim := { program := "ytfjcbodkjjmagaadoor", sum := "89fba71b184ad392c7a4fa317a3135a61e2ce9543cebc7ad9c3e90849b9a4737", func := "tessera/tesseralaw06.NamesTags", spec := "namesTags", inPlace := ["internal/bytealg.CountString", "internal/bytealg.IndexByteString", "internal/bytealg.IndexString", "internal/abi.NoEscape", "internal/bytealg.MakeNoZero"], unfollowed := true, recurses := true, named := ["unicode/utf8.first", "unicode/utf8.acceptRanges", "internal/bytealg.MaxLen"], apart := false, laid := [("unicode/utf8.acceptRanges", laid_unicode_utf8_acceptRanges), ("unicode/utf8.first", laid_unicode_utf8_first)], narrowed := true }
def NamesTagsUptoSaid : Prop := namesTagsUptoRow.holds Tryd.pinned (OpenSpec.upto namesTagsSpec)

/-- 'tesseralaw06.NamesBack', WHERE WHAT IT READS IS OF BULK AT MOST 1048576: true; the input reads as it did. -/
def namesBackUptoRow : OpenClaim := { program := "ytfjcbodkjjmagaadoor", sum := "89fba71b184ad392c7a4fa317a3135a61e2ce9543cebc7ad9c3e90849b9a4737", func := "tessera/tesseralaw06.NamesBack", spec := "namesBack", inPlace := ["internal/bytealg.IndexByteString", "internal/abi.NoEscape", "internal/bytealg.CountString", "internal/bytealg.IndexString", "internal/bytealg.MakeNoZero"], unfollowed := true, recurses := true, named := ["tessera/names.basesTable", "unicode/utf8.first", "unicode/utf8.acceptRanges", "internal/bytealg.MaxLen"], apart := false, laid := [("unicode/utf8.acceptRanges", laid_unicode_utf8_acceptRanges), ("tessera/names.basesTable", laid_tessera_names_basesTable), ("unicode/utf8.first", laid_unicode_utf8_first)], narrowed := true }
def NamesBackUptoSaid : Prop := namesBackUptoRow.holds Tryd.pinned (OpenSpec.upto namesBackSpec)

/-- 'tesseralaw06.NamesWhole', WHERE WHAT IT READS IS OF BULK AT MOST 1048576: true; the input reads as it did. -/
def namesWholeUptoRow : OpenClaim := { program := "ytfjcbodkjjmagaadoor", sum := "89fba71b184ad392c7a4fa317a3135a61e2ce9543cebc7ad9c3e90849b9a4737", func := "tessera/tesseralaw06.NamesWhole", spec := "namesWhole", inPlace := ["internal/bytealg.IndexByteString", "internal/abi.NoEscape", "internal/bytealg.CountString", "internal/bytealg.IndexString", "internal/bytealg.MakeNoZero"], unfollowed := true, recurses := true, named := ["tessera/names.basesTable", "unicode/utf8.first", "unicode/utf8.acceptRanges", "internal/bytealg.MaxLen"], apart := false, laid := [("unicode/utf8.acceptRanges", laid_unicode_utf8_acceptRanges), ("tessera/names.basesTable", laid_tessera_names_basesTable), ("unicode/utf8.first", laid_unicode_utf8_first)], narrowed := true }
def NamesWholeUptoSaid : Prop := namesWholeUptoRow.holds Tryd.pinned (OpenSpec.upto namesWholeSpec)

/-- 'tesseralaw06.NamesWider', WHERE WHAT IT READS IS OF BULK AT MOST 1048576: true; the input reads as it did. -/
def namesWiderUptoRow : OpenClaim := { program := "ytfjcbodkjjmagaadoor", sum := "89fba71b184ad392c7a4fa317a3135a61e2ce9543cebc7ad9c3e90849b9a4737", func := "tessera/tesseralaw06.NamesWider", spec := "namesWider", inPlace := ["internal/bytealg.IndexByteString", "internal/abi.NoEscape", "internal/bytealg.CountString", "internal/bytealg.IndexString", "internal/bytealg.MakeNoZero"], unfollowed := true, recurses := true, named := ["tessera/names.basesTable", "unicode/utf8.first", "unicode/utf8.acceptRanges", "internal/bytealg.MaxLen"], apart := false, laid := [("unicode/utf8.acceptRanges", laid_unicode_utf8_acceptRanges), ("tessera/names.basesTable", laid_tessera_names_basesTable), ("unicode/utf8.first", laid_unicode_utf8_first)], narrowed := true }
def NamesWiderUptoSaid : Prop := namesWiderUptoRow.holds Tryd.pinned (OpenSpec.upto namesWiderSpec)

/-- 'tesseralaw06.NamesFinds', WHERE WHAT IT READS IS OF BULK AT MOST 1048576: true; the input reads as it did. -/
def namesFindsUptoRow : OpenClaim := { program := "ytfjcbodkjjmagaadoor", sum := "89fba71b184ad392c7a4fa317a3135a61e2ce9543cebc7ad9c3e90849b9a4737", func := "tessera/tesseralaw06.NamesFinds", spec := "namesFinds", inPlace := ["internal/bytealg.IndexByteString", "internal/abi.NoEscape", "internal/bytealg.CountString", "internal/bytealg.IndexString", "internal/bytealg.MakeNoZero"], unfollowed := true, recurses := true, named := ["tessera/names.basesTable", "unicode/utf8.first", "unicode/utf8.acceptRanges", "internal/bytealg.MaxLen"], apart := false, laid := [("unicode/utf8.acceptRanges", laid_unicode_utf8_acceptRanges), ("tessera/names.basesTable", laid_tessera_names_basesTable), ("unicode/utf8.first", laid_unicode_utf8_first)], narrowed := true }
def NamesFindsUptoSaid : Prop := namesFindsUptoRow.holds Tryd.pinned (OpenSpec.upto namesFindsSpec)

end Rows
end Go.Proofs.YtfjcbodkjjmagaaDoor
