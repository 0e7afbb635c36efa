/-
  NARROWER THAN 'FOR EVERY INPUT', by the rows' own cells (each row's printed sentence says how): StreamWrites: laid · LexisGaps: laid · LexisEnds: laid · LexisOnce: laid · LexisSteps: laid · LexisWalks: laid · LexisTokens: laid · LexisWrites: laid · LexisBack: laid.
  DERIVED. THE GIVEN ROWS OF THIS SEAT. 9 by the template 'for every input the law returns true; each argument reads behind the call as it read before'; 0 by the template 'total and deterministic' (their statements: YtdhmpakhdhdebaaGreatDoorTotals.lean).
  GIVEN WITH THE SEED: the statements are not yours to turn. If you find one false, say at which input.
  Laid BY PROGRAM, IN A SANDBOX (cutbox-rows.mjs): the forced cells as the released guide's own fill.sh prints them over the translation cbc9d0591831fb2b… (all of the seat's roots in one cut). By AI agents, Wed Nov 11 2026. No macro, syntax, notation, axiom, sorry.
-/
import Derived.Test.YtdhmpakhdhdebaaGreatDoorChecked
import GoSem.PinnedTables
import GoSem.Claim
import GoSem.ClaimJoined
import GoSem.ClaimMapViews
import Derived.JoinedTies
import Derived.KernelRfl
namespace Go.Proofs.YtdhmpakhdhdebaaGreatDoor
/- THE CELL 'sum', in the pinned program and in every row, IS THE sha256 OF THE DUMP (.gsa) THAT YtdhmpakhdhdebaaGreatDoorProg.lean LOADS. Nothing in Lean hashes anything: it is a label: what it is worth is what the hold of that sum in a sandbox is worth. -/
noncomputable def Tryz.pinned : Pinned := { name := "ytdhmpakhdhdebaagreatdoor", sum := "cbc9d0591831fb2b818171ebd5686575f3848978c2425f1404ae96d10cce7fbd", checked := Tryz.checked }
namespace Rows
def none {H : Type} : Left H := { results := [], args := [] }

/- WHAT THE LISTED PACKAGE-LEVEL VARIABLES READ AS WHEN THE CALL BEGINS. Each datum BY PROGRAM (the guide's laid-datum.mjs) off the statement by which the dump's own 'gosem.cut.vars' lays the variable. In a bare row this is a premise. The card (YtdhmpakhdhdebaaGreatDoorCards.lean) ties it to the program's text. -/
def laid_unicode_utf8_acceptRanges {H : Type} : DataW H := .agg [.agg [.lit (.int .u8 128), .lit (.int .u8 191)], .agg [.lit (.int .u8 160), .lit (.int .u8 191)], .agg [.lit (.int .u8 128), .lit (.int .u8 159)], .agg [.lit (.int .u8 144), .lit (.int .u8 191)], .agg [.lit (.int .u8 128), .lit (.int .u8 143)], .agg [.lit (.int .u8 0), .lit (.int .u8 0)], .agg [.lit (.int .u8 0), .lit (.int .u8 0)], .agg [.lit (.int .u8 0), .lit (.int .u8 0)], .agg [.lit (.int .u8 0), .lit (.int .u8 0)], .agg [.lit (.int .u8 0), .lit (.int .u8 0)], .agg [.lit (.int .u8 0), .lit (.int .u8 0)], .agg [.lit (.int .u8 0), .lit (.int .u8 0)], .agg [.lit (.int .u8 0), .lit (.int .u8 0)], .agg [.lit (.int .u8 0), .lit (.int .u8 0)], .agg [.lit (.int .u8 0), .lit (.int .u8 0)], .agg [.lit (.int .u8 0), .lit (.int .u8 0)]]
def laid_errors_errorType {H : Type} : DataW H := .iface "internal/reflectlite.rtype" (.agg [.ptr (.lit (.string [101, 114, 114, 111, 114]))])
def laid_tessera_names_basesTable {H : Type} : DataW H := .agg [.lit (.int .i32 192), .lit (.int .i32 214), .lit (.int .i32 216), .lit (.int .i32 246), .lit (.int .i32 248), .lit (.int .i32 767), .lit (.int .i32 880), .lit (.int .i32 893), .lit (.int .i32 895), .lit (.int .i32 8191), .lit (.int .i32 8204), .lit (.int .i32 8205), .lit (.int .i32 8304), .lit (.int .i32 8591), .lit (.int .i32 11264), .lit (.int .i32 12271), .lit (.int .i32 12289), .lit (.int .i32 55295), .lit (.int .i32 63744), .lit (.int .i32 64975), .lit (.int .i32 65008), .lit (.int .i32 65533), .lit (.int .i32 65536), .lit (.int .i32 983039)]
/-- One of Go's own tables, pinned by name: the form's constant. -/
def laid_unicode_utf8_first : DataW Unit := Go.Pinned.utf8First
/-- One of Go's own tables, pinned by name: the form's constant. -/
def laid_unicode_CaseRanges : DataW Unit := Go.Pinned.caseRanges

/-- 'tesseralaw26.StreamWrites': WHATEVER THE INPUT: true; the input reads as it did. -/
def streamWritesSpec : ChangeSpec := { name := "streamWrites", fn := fun _ => fun
  | [d1, d2, d3, d4] => { results := [.lit (.bool true)], args := [d1, d2, d3, d4] }
  | _ => none }
def streamWritesRow : OpenClaim := { program := "ytdhmpakhdhdebaagreatdoor", sum := "cbc9d0591831fb2b818171ebd5686575f3848978c2425f1404ae96d10cce7fbd", func := "tessera/tesseralaw26.StreamWrites", spec := "streamWrites", inPlace := ["internal/bytealg.IndexByteString", "internal/bytealg.IndexString", "internal/bytealg.CountString", "internal/abi.NoEscape", "internal/reflectlite.ValueOf", "(internal/reflectlite.Value).Type", "(internal/reflectlite.Value).IsNil", "internal/reflectlite.TypeOf", "(internal/reflectlite.Value).Elem", "(internal/reflectlite.Value).Set"], unfollowed := true, recurses := true, named := ["tessera/names.basesTable", "unicode/utf8.first", "unicode/utf8.acceptRanges", "internal/bytealg.MaxLen", "errors.errorType"], apart := false, laid := [("unicode/utf8.acceptRanges", laid_unicode_utf8_acceptRanges), ("errors.errorType", laid_errors_errorType), ("tessera/names.basesTable", laid_tessera_names_basesTable), ("unicode/utf8.first", laid_unicode_utf8_first)] }
def StreamWritesSaid : Prop := streamWritesRow.holds Tryz.pinned (OpenSpec.ofChange streamWritesSpec)

/-- ITS FALSE NEIGHBOUR: 'it returns false'. Refute it at one input. -/
def streamWritesWrong : ChangeSpec := { name := "streamWrites", fn := fun _ => fun
  | [d1, d2, d3, d4] => { results := [.lit (.bool false)], args := [d1, d2, d3, d4] }
  | _ => none }
def StreamWritesWrongFalsely : Prop := streamWritesRow.holds Tryz.pinned (OpenSpec.ofChange streamWritesWrong)

/-- 'tesseralaw10.LexisGaps': WHATEVER THE INPUT: true; the input reads as it did. -/
def lexisGapsSpec : ChangeSpec := { name := "lexisGaps", fn := fun _ => fun
  | [d1, d2] => { results := [.lit (.bool true)], args := [d1, d2] }
  | _ => none }
def lexisGapsRow : OpenClaim := { program := "ytdhmpakhdhdebaagreatdoor", sum := "cbc9d0591831fb2b818171ebd5686575f3848978c2425f1404ae96d10cce7fbd", func := "tessera/tesseralaw10.LexisGaps", spec := "lexisGaps", inPlace := ["internal/bytealg.IndexByteString", "internal/bytealg.IndexString", "internal/abi.NoEscape", "internal/bytealg.CountString"], unfollowed := true, recurses := true, named := ["tessera/names.basesTable", "unicode/utf8.first", "unicode/utf8.acceptRanges", "internal/bytealg.MaxLen"], apart := false, laid := [("unicode/utf8.acceptRanges", laid_unicode_utf8_acceptRanges), ("tessera/names.basesTable", laid_tessera_names_basesTable), ("unicode/utf8.first", laid_unicode_utf8_first)] }
def LexisGapsSaid : Prop := lexisGapsRow.holds Tryz.pinned (OpenSpec.ofChange lexisGapsSpec)

/-- ITS FALSE NEIGHBOUR: 'it returns false'. Refute it at one input. -/
def lexisGapsWrong : ChangeSpec := { name := "lexisGaps", fn := fun _ => fun
  | [d1, d2] => { results := [.lit (.bool false)], args := [d1, d2] }
  | _ => none }
def LexisGapsWrongFalsely : Prop := lexisGapsRow.holds Tryz.pinned (OpenSpec.ofChange lexisGapsWrong)

/-- 'tesseralaw10.LexisEnds': WHATEVER THE INPUT: true; the input reads as it did. -/
def lexisEndsSpec : ChangeSpec := { name := "lexisEnds", fn := fun _ => fun
  | [d] => { results := [.lit (.bool true)], args := [d] }
  | _ => none }
def lexisEndsRow : OpenClaim := { program := "ytdhmpakhdhdebaagreatdoor", sum := "cbc9d0591831fb2b818171ebd5686575f3848978c2425f1404ae96d10cce7fbd", func := "tessera/tesseralaw10.LexisEnds", spec := "lexisEnds", inPlace := ["internal/bytealg.IndexByteString", "internal/bytealg.IndexString", "internal/abi.NoEscape", "internal/bytealg.CountString"], unfollowed := true, recurses := true, named := ["tessera/names.basesTable", "unicode/utf8.first", "unicode/utf8.acceptRanges", "internal/bytealg.MaxLen"], apart := false, laid := [("unicode/utf8.acceptRanges", laid_unicode_utf8_acceptRanges), ("tessera/names.basesTable", laid_tessera_names_basesTable), ("unicode/utf8.first", laid_unicode_utf8_first)] }
def LexisEndsSaid : Prop := lexisEndsRow.holds Tryz.pinned (OpenSpec.ofChange lexisEndsSpec)

/-- ITS FALSE NEIGHBOUR: 'it returns false'. Refute it at one input. -/
def lexisEndsWrong : ChangeSpec := { name := "lexisEnds", fn := fun _ => fun
  | [d] => { results := [.lit (.bool false)], args := [d] }
  | _ => none }
def LexisEndsWrongFalsely : Prop := lexisEndsRow.holds Tryz.pinned (OpenSpec.ofChange lexisEndsWrong)

/-- 'tesseralaw10.LexisOnce': WHATEVER THE INPUT: true; the input reads as it did. -/
def lexisOnceSpec : ChangeSpec := { name := "lexisOnce", fn := fun _ => fun
  | [d] => { results := [.lit (.bool true)], args := [d] }
  | _ => none }
def lexisOnceRow : OpenClaim := { program := "ytdhmpakhdhdebaagreatdoor", sum := "cbc9d0591831fb2b818171ebd5686575f3848978c2425f1404ae96d10cce7fbd", func := "tessera/tesseralaw10.LexisOnce", spec := "lexisOnce", inPlace := ["internal/bytealg.IndexByteString", "internal/bytealg.IndexString", "internal/abi.NoEscape", "internal/bytealg.CountString"], unfollowed := true, recurses := true, named := ["tessera/names.basesTable", "unicode/utf8.first", "unicode/utf8.acceptRanges", "internal/bytealg.MaxLen"], apart := false, laid := [("unicode/utf8.acceptRanges", laid_unicode_utf8_acceptRanges), ("tessera/names.basesTable", laid_tessera_names_basesTable), ("unicode/utf8.first", laid_unicode_utf8_first)] }
def LexisOnceSaid : Prop := lexisOnceRow.holds Tryz.pinned (OpenSpec.ofChange lexisOnceSpec)

/-- ITS FALSE NEIGHBOUR: 'it returns false'. Refute it at one input. -/
def lexisOnceWrong : ChangeSpec := { name := "lexisOnce", fn := fun _ => fun
  | [d] => { results := [.lit (.bool false)], args := [d] }
  | _ => none }
def LexisOnceWrongFalsely : Prop := lexisOnceRow.holds Tryz.pinned (OpenSpec.ofChange lexisOnceWrong)

/-- 'tesseralaw10.LexisSteps': WHATEVER THE INPUT: true; the input reads as it did. -/
def lexisStepsSpec : ChangeSpec := { name := "lexisSteps", fn := fun _ => fun
  | [d1, d2, d3] => { results := [.lit (.bool true)], args := [d1, d2, d3] }
  | _ => none }
def lexisStepsRow : OpenClaim := { program := "ytdhmpakhdhdebaagreatdoor", sum := "cbc9d0591831fb2b818171ebd5686575f3848978c2425f1404ae96d10cce7fbd", func := "tessera/tesseralaw10.LexisSteps", spec := "lexisSteps", inPlace := ["internal/bytealg.IndexByteString", "internal/bytealg.IndexString", "internal/abi.NoEscape", "internal/bytealg.CountString", "internal/reflectlite.ValueOf", "(internal/reflectlite.Value).Type", "(internal/reflectlite.Value).IsNil", "internal/reflectlite.TypeOf", "(internal/reflectlite.Value).Elem", "(internal/reflectlite.Value).Set"], unfollowed := true, recurses := true, named := ["tessera/names.basesTable", "unicode/utf8.first", "unicode/utf8.acceptRanges", "internal/bytealg.MaxLen", "errors.errorType"], apart := false, laid := [("unicode/utf8.acceptRanges", laid_unicode_utf8_acceptRanges), ("errors.errorType", laid_errors_errorType), ("tessera/names.basesTable", laid_tessera_names_basesTable), ("unicode/utf8.first", laid_unicode_utf8_first)] }
def LexisStepsSaid : Prop := lexisStepsRow.holds Tryz.pinned (OpenSpec.ofChange lexisStepsSpec)

/-- ITS FALSE NEIGHBOUR: 'it returns false'. Refute it at one input. -/
def lexisStepsWrong : ChangeSpec := { name := "lexisSteps", fn := fun _ => fun
  | [d1, d2, d3] => { results := [.lit (.bool false)], args := [d1, d2, d3] }
  | _ => none }
def LexisStepsWrongFalsely : Prop := lexisStepsRow.holds Tryz.pinned (OpenSpec.ofChange lexisStepsWrong)

/-- 'tesseralaw10.LexisWalks': WHATEVER THE INPUT: true; the input reads as it did. -/
def lexisWalksSpec : ChangeSpec := { name := "lexisWalks", fn := fun _ => fun
  | [d1, d2] => { results := [.lit (.bool true)], args := [d1, d2] }
  | _ => none }
def lexisWalksRow : OpenClaim := { program := "ytdhmpakhdhdebaagreatdoor", sum := "cbc9d0591831fb2b818171ebd5686575f3848978c2425f1404ae96d10cce7fbd", func := "tessera/tesseralaw10.LexisWalks", spec := "lexisWalks", inPlace := ["internal/bytealg.IndexByteString", "internal/bytealg.IndexString", "internal/abi.NoEscape", "internal/bytealg.CountString", "internal/reflectlite.ValueOf", "(internal/reflectlite.Value).Type", "(internal/reflectlite.Value).IsNil", "internal/reflectlite.TypeOf", "(internal/reflectlite.Value).Elem", "(internal/reflectlite.Value).Set"], unfollowed := true, recurses := true, named := ["tessera/names.basesTable", "unicode/utf8.first", "unicode/utf8.acceptRanges", "internal/bytealg.MaxLen", "errors.errorType"], apart := false, laid := [("unicode/utf8.acceptRanges", laid_unicode_utf8_acceptRanges), ("errors.errorType", laid_errors_errorType), ("tessera/names.basesTable", laid_tessera_names_basesTable), ("unicode/utf8.first", laid_unicode_utf8_first)] }
def LexisWalksSaid : Prop := lexisWalksRow.holds Tryz.pinned (OpenSpec.ofChange lexisWalksSpec)

/-- ITS FALSE NEIGHBOUR: 'it returns false'. Refute it at one input. -/
def lexisWalksWrong : ChangeSpec := { name := "lexisWalks", fn := fun _ => fun
  | [d1, d2] => { results := [.lit (.bool false)], args := [d1, d2] }
  | _ => none }
def LexisWalksWrongFalsely : Prop := lexisWalksRow.holds Tryz.pinned (OpenSpec.ofChange lexisWalksWrong)

/-- 'tesseralaw10.LexisTokens': WHATEVER THE INPUT: true; the input reads as it did. -/
def lexisTokensSpec : ChangeSpec := { name := "lexisTokens", fn := fun _ => fun
  | [d] => { results := [.lit (.bool true)], args := [d] }
  | _ => none }
def lexisTokensRow : OpenClaim := { program := "ytdhmpakhdhdebaagreatdoor", sum := "cbc9d0591831fb2b818171ebd5686575f3848978c2425f1404ae96d10cce7fbd", func := "tessera/tesseralaw10.LexisTokens", spec := "lexisTokens", inPlace := ["internal/bytealg.IndexByteString", "internal/bytealg.IndexString", "internal/abi.NoEscape", "internal/bytealg.CountString", "internal/reflectlite.ValueOf", "(internal/reflectlite.Value).Type", "(internal/reflectlite.Value).IsNil", "internal/reflectlite.TypeOf", "(internal/reflectlite.Value).Elem", "(internal/reflectlite.Value).Set"], unfollowed := true, recurses := true, named := ["tessera/names.basesTable", "unicode/utf8.first", "unicode/utf8.acceptRanges", "internal/bytealg.MaxLen", "errors.errorType"], apart := false, laid := [("unicode/utf8.acceptRanges", laid_unicode_utf8_acceptRanges), ("errors.errorType", laid_errors_errorType), ("tessera/names.basesTable", laid_tessera_names_basesTable), ("unicode/utf8.first", laid_unicode_utf8_first)] }
def LexisTokensSaid : Prop := lexisTokensRow.holds Tryz.pinned (OpenSpec.ofChange lexisTokensSpec)

/-- ITS FALSE NEIGHBOUR: 'it returns false'. Refute it at one input. -/
def lexisTokensWrong : ChangeSpec := { name := "lexisTokens", fn := fun _ => fun
  | [d] => { results := [.lit (.bool false)], args := [d] }
  | _ => none }
def LexisTokensWrongFalsely : Prop := lexisTokensRow.holds Tryz.pinned (OpenSpec.ofChange lexisTokensWrong)

/-- 'tesseralaw10.LexisWrites': WHATEVER THE INPUT: true; the input reads as it did. -/
def lexisWritesSpec : ChangeSpec := { name := "lexisWrites", fn := fun _ => fun
  | [d] => { results := [.lit (.bool true)], args := [d] }
  | _ => none }
def lexisWritesRow : OpenClaim := { program := "ytdhmpakhdhdebaagreatdoor", sum := "cbc9d0591831fb2b818171ebd5686575f3848978c2425f1404ae96d10cce7fbd", func := "tessera/tesseralaw10.LexisWrites", spec := "lexisWrites", inPlace := ["internal/bytealg.IndexByteString", "internal/abi.NoEscape", "internal/bytealg.MakeNoZero", "internal/bytealg.IndexString", "internal/bytealg.CountString"], unfollowed := true, recurses := true, named := ["tessera/names.basesTable", "unicode/utf8.first", "unicode/utf8.acceptRanges", "unicode.CaseRanges", "internal/bytealg.MaxLen"], apart := false, laid := [("unicode/utf8.acceptRanges", laid_unicode_utf8_acceptRanges), ("tessera/names.basesTable", laid_tessera_names_basesTable), ("unicode.CaseRanges", laid_unicode_CaseRanges), ("unicode/utf8.first", laid_unicode_utf8_first)] }
def LexisWritesSaid : Prop := lexisWritesRow.holds Tryz.pinned (OpenSpec.ofChange lexisWritesSpec)

/-- ITS FALSE NEIGHBOUR: 'it returns false'. Refute it at one input. -/
def lexisWritesWrong : ChangeSpec := { name := "lexisWrites", fn := fun _ => fun
  | [d] => { results := [.lit (.bool false)], args := [d] }
  | _ => none }
def LexisWritesWrongFalsely : Prop := lexisWritesRow.holds Tryz.pinned (OpenSpec.ofChange lexisWritesWrong)

/-- 'tesseralaw10.LexisBack': WHATEVER THE INPUT: true; the input reads as it did. -/
def lexisBackSpec : ChangeSpec := { name := "lexisBack", fn := fun _ => fun
  | [d1, d2] => { results := [.lit (.bool true)], args := [d1, d2] }
  | _ => none }
def lexisBackRow : OpenClaim := { program := "ytdhmpakhdhdebaagreatdoor", sum := "cbc9d0591831fb2b818171ebd5686575f3848978c2425f1404ae96d10cce7fbd", func := "tessera/tesseralaw10.LexisBack", spec := "lexisBack", inPlace := ["internal/bytealg.IndexByteString", "internal/bytealg.IndexString", "internal/abi.NoEscape", "internal/bytealg.CountString", "internal/bytealg.MakeNoZero"], unfollowed := true, recurses := true, named := ["tessera/names.basesTable", "unicode/utf8.first", "unicode/utf8.acceptRanges", "internal/bytealg.MaxLen", "unicode.CaseRanges"], apart := false, laid := [("unicode/utf8.acceptRanges", laid_unicode_utf8_acceptRanges), ("tessera/names.basesTable", laid_tessera_names_basesTable), ("unicode.CaseRanges", laid_unicode_CaseRanges), ("unicode/utf8.first", laid_unicode_utf8_first)] }
def LexisBackSaid : Prop := lexisBackRow.holds Tryz.pinned (OpenSpec.ofChange lexisBackSpec)

/-- ITS FALSE NEIGHBOUR: 'it returns false'. Refute it at one input. -/
def lexisBackWrong : ChangeSpec := { name := "lexisBack", fn := fun _ => fun
  | [d1, d2] => { results := [.lit (.bool false)], args := [d1, d2] }
  | _ => none }
def LexisBackWrongFalsely : Prop := lexisBackRow.holds Tryz.pinned (OpenSpec.ofChange lexisBackWrong)

/- THE SECOND FORM. 'bulk': how many values and letters a reading holds, each counted each time it is reached (what is shared counts as often as it is met; a slice's spare places count too). A statement '..UptoSaid' is the law's where the arguments, and the package variables that the reading takes, are together of bulk at most 1048576: NARROWER than '..Said'. Prove '..Said' where nothing that the law and all that it calls make is longer than what came in: it says more and counts as full. Else prove '..UptoSaid'. A law counts once. -/
mutual
def uptoBulk {H : Type} : DataW H → Nat
  | .lit (.string bytes) => bytes.length + 1
  | .lit _ => 1
  | .nil => 1
  | .ptr d => uptoBulk d + 1
  | .slice elems spare => uptoBulkAll elems + uptoBulkAll spare + 1
  | .agg parts => uptoBulkAll parts + 1
  | .iface _ d => uptoBulk d + 1
  | .map entries => uptoBulkEntries entries + 1
  | .held _ => 1
def uptoBulkAll {H : Type} : List (DataW H) → Nat
  | [] => 0
  | d :: r => uptoBulk d + uptoBulkAll r
def uptoBulkEntries {H : Type} : List (Lit × DataW H) → Nat
  | [] => 0
  | x :: r => uptoBulkEntry x + uptoBulkEntries r
def uptoBulkEntry {H : Type} : Lit × DataW H → Nat
  | (.string bytes, d) => bytes.length + uptoBulk d + 1
  | (_, d) => uptoBulk d + 1
 end
def uptoSmall : (H : Type) → List (DataW H) → Bool := fun _ ds => decide (uptoBulkAll ds ≤ 1048576)
def OpenSpec.upto (s : _root_.Go.ChangeSpec) : _root_.Go.OpenSpec := { _root_.Go.OpenSpec.ofChange s with cond := some uptoSmall }

/-- 'tesseralaw26.StreamWrites', WHERE WHAT IT READS IS OF BULK AT MOST 1048576: true; the input reads as it did. -/
def streamWritesUptoRow : OpenClaim := { program := "ytdhmpakhdhdebaagreatdoor", sum := "cbc9d0591831fb2b818171ebd5686575f3848978c2425f1404ae96d10cce7fbd", func := "tessera/tesseralaw26.StreamWrites", spec := "streamWrites", inPlace := ["internal/bytealg.IndexByteString", "internal/bytealg.IndexString", "internal/bytealg.CountString", "internal/abi.NoEscape", "internal/reflectlite.ValueOf", "(internal/reflectlite.Value).Type", "(internal/reflectlite.Value).IsNil", "internal/reflectlite.TypeOf", "(internal/reflectlite.Value).Elem", "(internal/reflectlite.Value).Set"], unfollowed := true, recurses := true, named := ["tessera/names.basesTable", "unicode/utf8.first", "unicode/utf8.acceptRanges", "internal/bytealg.MaxLen", "errors.errorType"], apart := false, laid := [("unicode/utf8.acceptRanges", laid_unicode_utf8_acceptRanges), ("errors.errorType", laid_errors_errorType), ("tessera/names.basesTable", laid_tessera_names_basesTable), ("unicode/utf8.first", laid_unicode_utf8_first)], narrowed := true }
def StreamWritesUptoSaid : Prop := streamWritesUptoRow.holds Tryz.pinned (OpenSpec.upto streamWritesSpec)

/-- 'tesseralaw10.LexisGaps', WHERE WHAT IT READS IS OF BULK AT MOST 1048576: true; the input reads as it did. -/
def lexisGapsUptoRow : OpenClaim := { program := "ytdhmpakhdhdebaagreatdoor", sum := "cbc9d0591831fb2b818171ebd5686575f3848978c2425f1404ae96d10cce7fbd", func := "tessera/tesseralaw10.LexisGaps", spec := "lexisGaps", inPlace := ["internal/bytealg.IndexByteString", "internal/bytealg.IndexString", "internal/abi.NoEscape", "internal/bytealg.CountString"], unfollowed := true, recurses := true, named := ["tessera/names.basesTable", "unicode/utf8.first", "unicode/utf8.acceptRanges", "internal/bytealg.MaxLen"], apart := false, laid := [("unicode/utf8.acceptRanges", laid_unicode_utf8_acceptRanges), ("tessera/names.basesTable", laid_tessera_names_basesTable), ("unicode/utf8.first", laid_unicode_utf8_first)], narrowed := true }
def LexisGapsUptoSaid : Prop := lexisGapsUptoRow.holds Tryz.pinned (OpenSpec.upto lexisGapsSpec)

/-- 'tesseralaw10.LexisEnds', WHERE WHAT IT READS IS OF BULK AT MOST 1048576: true; the input reads as it did. -/
def lexisEndsUptoRow : OpenClaim := { program := "ytdhmpakhdhdebaagreatdoor", sum := "cbc9d0591831fb2b818171ebd5686575f3848978c2425f1404ae96d10cce7fbd", func := "tessera/tesseralaw10.LexisEnds", spec := "lexisEnds", inPlace := ["internal/bytealg.IndexByteString", "internal/bytealg.IndexString", "internal/abi.NoEscape", "internal/bytealg.CountString"], unfollowed := true, recurses := true, named := ["tessera/names.basesTable", "unicode/utf8.first", "unicode/utf8.acceptRanges", "internal/bytealg.MaxLen"], apart := false, laid := [("unicode/utf8.acceptRanges", laid_unicode_utf8_acceptRanges), ("tessera/names.basesTable", laid_tessera_names_basesTable), ("unicode/utf8.first", laid_unicode_utf8_first)], narrowed := true }
def LexisEndsUptoSaid : Prop := lexisEndsUptoRow.holds Tryz.pinned (OpenSpec.upto lexisEndsSpec)

/-- 'tesseralaw10.LexisOnce', WHERE WHAT IT READS IS OF BULK AT MOST 1048576: true; the input reads as it did. -/
def lexisOnceUptoRow : OpenClaim := { program := "ytdhmpakhdhdebaagreatdoor", sum := "cbc9d0591831fb2b818171ebd5686575f3848978c2425f1404ae96d10cce7fbd", func := "tessera/tesseralaw10.LexisOnce", spec := "lexisOnce", inPlace := ["internal/bytealg.IndexByteString", "internal/bytealg.IndexString", "internal/abi.NoEscape", "internal/bytealg.CountString"], unfollowed := true, recurses := true, named := ["tessera/names.basesTable", "unicode/utf8.first", "unicode/utf8.acceptRanges", "internal/bytealg.MaxLen"], apart := false, laid := [("unicode/utf8.acceptRanges", laid_unicode_utf8_acceptRanges), ("tessera/names.basesTable", laid_tessera_names_basesTable), ("unicode/utf8.first", laid_unicode_utf8_first)], narrowed := true }
def LexisOnceUptoSaid : Prop := lexisOnceUptoRow.holds Tryz.pinned (OpenSpec.upto lexisOnceSpec)

/-- 'tesseralaw10.LexisSteps', WHERE WHAT IT READS IS OF BULK AT MOST 1048576: true; the input reads as it did. -/
def lexisStepsUptoRow : OpenClaim := { program := "ytdhmpakhdhdebaagreatdoor", sum := "cbc9d0591831fb2b818171ebd5686575f3848978c2425f1404ae96d10cce7fbd", func := "tessera/tesseralaw10.LexisSteps", spec := "lexisSteps", inPlace := ["internal/bytealg.IndexByteString", "internal/bytealg.IndexString", "internal/abi.NoEscape", "internal/bytealg.CountString", "internal/reflectlite.ValueOf", "(internal/reflectlite.Value).Type", "(internal/reflectlite.Value).IsNil", "internal/reflectlite.TypeOf", "(internal/reflectlite.Value).Elem", "(internal/reflectlite.Value).Set"], unfollowed := true, recurses := true, named := ["tessera/names.basesTable", "unicode/utf8.first", "unicode/utf8.acceptRanges", "internal/bytealg.MaxLen", "errors.errorType"], apart := false, laid := [("unicode/utf8.acceptRanges", laid_unicode_utf8_acceptRanges), ("errors.errorType", laid_errors_errorType), ("tessera/names.basesTable", laid_tessera_names_basesTable), ("unicode/utf8.first", laid_unicode_utf8_first)], narrowed := true }
def LexisStepsUptoSaid : Prop := lexisStepsUptoRow.holds Tryz.pinned (OpenSpec.upto lexisStepsSpec)

/-- 'tesseralaw10.LexisWalks', WHERE WHAT IT READS IS OF BULK AT MOST 1048576: true; the input reads as it did. -/
def lexisWalksUptoRow : OpenClaim := { program := "ytdhmpakhdhdebaagreatdoor", sum := "cbc9d0591831fb2b818171ebd5686575f3848978c2425f1404ae96d10cce7fbd", func := "tessera/tesseralaw10.LexisWalks", spec := "lexisWalks", inPlace := ["internal/bytealg.IndexByteString", "internal/bytealg.IndexString", "internal/abi.NoEscape", "internal/bytealg.CountString", "internal/reflectlite.ValueOf", "(internal/reflectlite.Value).Type", "(internal/reflectlite.Value).IsNil", "internal/reflectlite.TypeOf", "(internal/reflectlite.Value).Elem", "(internal/reflectlite.Value).Set"], unfollowed := true, recurses := true, named := ["tessera/names.basesTable", "unicode/utf8.first", "unicode/utf8.acceptRanges", "internal/bytealg.MaxLen", "errors.errorType"], apart := false, laid := [("unicode/utf8.acceptRanges", laid_unicode_utf8_acceptRanges), ("errors.errorType", laid_errors_errorType), ("tessera/names.basesTable", laid_tessera_names_basesTable), ("unicode/utf8.first", laid_unicode_utf8_first)], narrowed := true }
def LexisWalksUptoSaid : Prop := lexisWalksUptoRow.holds Tryz.pinned (OpenSpec.upto lexisWalksSpec)

/-- 'tesseralaw10.LexisTokens', WHERE WHAT IT READS IS OF BULK AT MOST 1048576: true; the input reads as it did. -/
def lexisTokensUptoRow : OpenClaim := { program := "ytdhmpakhdhdebaagreatdoor", sum := "cbc9d0591831fb2b818171ebd5686575f3848978c2425f1404ae96d10cce7fbd", func := "tessera/tesseralaw10.LexisTokens", spec := "lexisTokens", inPlace := ["internal/bytealg.IndexByteString", "internal/bytealg.IndexString", "internal/abi.NoEscape", "internal/bytealg.CountString", "internal/reflectlite.ValueOf", "(internal/reflectlite.Value).Type", "(internal/reflectlite.Value).IsNil", "internal/reflectlite.TypeOf", "(internal/reflectlite.Value).Elem", "(internal/reflectlite.Value).Set"], unfollowed := true, recurses := true, named := ["tessera/names.basesTable", "unicode/utf8.first", "unicode/utf8.acceptRanges", "internal/bytealg.MaxLen", "errors.errorType"], apart := false, laid := [("unicode/utf8.acceptRanges", laid_unicode_utf8_acceptRanges), ("errors.errorType", laid_errors_errorType), ("tessera/names.basesTable", laid_tessera_names_basesTable), ("unicode/utf8.first", laid_unicode_utf8_first)], narrowed := true }
def LexisTokensUptoSaid : Prop := lexisTokensUptoRow.holds Tryz.pinned (OpenSpec.upto lexisTokensSpec)

/-- 'tesseralaw10.LexisWrites', WHERE WHAT IT READS IS OF BULK AT MOST 1048576: true; the input reads as it did. -/
def lexisWritesUptoRow : OpenClaim := { program := "ytdhmpakhdhdebaagreatdoor", sum := "cbc9d0591831fb2b818171ebd5686575f3848978c2425f1404ae96d10cce7fbd", func := "tessera/tesseralaw10.LexisWrites", spec := "lexisWrites", inPlace := ["internal/bytealg.IndexByteString", "internal/abi.NoEscape", "internal/bytealg.MakeNoZero", "internal/bytealg.IndexString", "internal/bytealg.CountString"], unfollowed := true, recurses := true, named := ["tessera/names.basesTable", "unicode/utf8.first", "unicode/utf8.acceptRanges", "unicode.CaseRanges", "internal/bytealg.MaxLen"], apart := false, laid := [("unicode/utf8.acceptRanges", laid_unicode_utf8_acceptRanges), ("tessera/names.basesTable", laid_tessera_names_basesTable), ("unicode.CaseRanges", laid_unicode_CaseRanges), ("unicode/utf8.first", laid_unicode_utf8_first)], narrowed := true }
def LexisWritesUptoSaid : Prop := lexisWritesUptoRow.holds Tryz.pinned (OpenSpec.upto lexisWritesSpec)

/-- 'tesseralaw10.LexisBack', WHERE WHAT IT READS IS OF BULK AT MOST 1048576: true; the input reads as it did. -/
def lexisBackUptoRow : OpenClaim := { program := "ytdhmpakhdhdebaagreatdoor", sum := "cbc9d0591831fb2b818171ebd5686575f3848978c2425f1404ae96d10cce7fbd", func := "tessera/tesseralaw10.LexisBack", spec := "lexisBack", inPlace := ["internal/bytealg.IndexByteString", "internal/bytealg.IndexString", "internal/abi.NoEscape", "internal/bytealg.CountString", "internal/bytealg.MakeNoZero"], unfollowed := true, recurses := true, named := ["tessera/names.basesTable", "unicode/utf8.first", "unicode/utf8.acceptRanges", "internal/bytealg.MaxLen", "unicode.CaseRanges"], apart := false, laid := [("unicode/utf8.acceptRanges", laid_unicode_utf8_acceptRanges), ("tessera/names.basesTable", laid_tessera_names_basesTable), ("unicode.CaseRanges", laid_unicode_CaseRanges), ("unicode/utf8.first", laid_unicode_utf8_first)], narrowed := true }
def LexisBackUptoSaid : Prop := lexisBackUptoRow.holds Tryz.pinned (OpenSpec.upto lexisBackSpec)

end Rows
end Go.Proofs.YtdhmpakhdhdebaaGreatDoor
