/-
  NARROWER THAN 'FOR EVERY INPUT', by the rows' own cells (each row's printed sentence says how): NquadsPrints: laid · NquadsLines: laid · NquadsEach: laid · NquadsParses: laid · NquadsBack: laid · NquadsLoose: laid · NquadsFirst: laid · NquadsJoins: laid.
  DERIVED. THE GIVEN ROWS OF THIS SEAT. 8 by the template 'for every input the law returns true; each argument reads behind the call as it read before'; 0 by the template 'total and deterministic' (their statements: YtdegonmkikfghaaGreatDoorTotals.lean).
  GIVEN WITH THE SEED: the statements are not yours to turn. If you find one false, say at which input.
  Laid BY PROGRAM, IN A SANDBOX (cutbox-rows.mjs): the forced cells as the released guide's own fill.sh prints them over the translation ed4f158bb6b1d5df… (all of the seat's roots in one cut). By AI agents, Wed Nov 11 2026. No macro, syntax, notation, axiom, sorry.
-/
import Derived.Test.YtdegonmkikfghaaGreatDoorChecked
import GoSem.PinnedTables
import GoSem.Claim
import GoSem.ClaimJoined
import GoSem.ClaimMapViews
import Derived.JoinedTies
import Derived.KernelRfl
namespace Go.Proofs.YtdegonmkikfghaaGreatDoor
/- THE CELL 'sum', in the pinned program and in every row, IS THE sha256 OF THE DUMP (.gsa) THAT YtdegonmkikfghaaGreatDoorProg.lean LOADS. Nothing in Lean hashes anything: it is a label: what it is worth is what the hold of that sum in a sandbox is worth. -/
noncomputable def Tryz.pinned : Pinned := { name := "ytdegonmkikfghaagreatdoor", sum := "ed4f158bb6b1d5dff52ec19a1d6a7bea3a9d2593b15dba4fc631f4ac60d714e1", checked := Tryz.checked }
namespace Rows
def none {H : Type} : Left H := { results := [], args := [] }

/- WHAT THE LISTED PACKAGE-LEVEL VARIABLES READ AS WHEN THE CALL BEGINS. Each datum BY PROGRAM (the guide's laid-datum.mjs) off the statement by which the dump's own 'gosem.cut.vars' lays the variable. In a bare row this is a premise. The card (YtdegonmkikfghaaGreatDoorCards.lean) ties it to the program's text. -/
def laid_unicode_utf8_acceptRanges {H : Type} : DataW H := .agg [.agg [.lit (.int .u8 128), .lit (.int .u8 191)], .agg [.lit (.int .u8 160), .lit (.int .u8 191)], .agg [.lit (.int .u8 128), .lit (.int .u8 159)], .agg [.lit (.int .u8 144), .lit (.int .u8 191)], .agg [.lit (.int .u8 128), .lit (.int .u8 143)], .agg [.lit (.int .u8 0), .lit (.int .u8 0)], .agg [.lit (.int .u8 0), .lit (.int .u8 0)], .agg [.lit (.int .u8 0), .lit (.int .u8 0)], .agg [.lit (.int .u8 0), .lit (.int .u8 0)], .agg [.lit (.int .u8 0), .lit (.int .u8 0)], .agg [.lit (.int .u8 0), .lit (.int .u8 0)], .agg [.lit (.int .u8 0), .lit (.int .u8 0)], .agg [.lit (.int .u8 0), .lit (.int .u8 0)], .agg [.lit (.int .u8 0), .lit (.int .u8 0)], .agg [.lit (.int .u8 0), .lit (.int .u8 0)], .agg [.lit (.int .u8 0), .lit (.int .u8 0)]]
def laid_tessera_names_basesTable {H : Type} : DataW H := .agg [.lit (.int .i32 192), .lit (.int .i32 214), .lit (.int .i32 216), .lit (.int .i32 246), .lit (.int .i32 248), .lit (.int .i32 767), .lit (.int .i32 880), .lit (.int .i32 893), .lit (.int .i32 895), .lit (.int .i32 8191), .lit (.int .i32 8204), .lit (.int .i32 8205), .lit (.int .i32 8304), .lit (.int .i32 8591), .lit (.int .i32 11264), .lit (.int .i32 12271), .lit (.int .i32 12289), .lit (.int .i32 55295), .lit (.int .i32 63744), .lit (.int .i32 64975), .lit (.int .i32 65008), .lit (.int .i32 65533), .lit (.int .i32 65536), .lit (.int .i32 983039)]
/-- One of Go's own tables, pinned by name: the form's constant. -/
def laid_unicode_utf8_first : DataW Unit := Go.Pinned.utf8First
def laid_errors_errorType {H : Type} : DataW H := .iface "internal/reflectlite.rtype" (.agg [.ptr (.lit (.string [101, 114, 114, 111, 114]))])

/-- 'tesseralaw09.NquadsPrints': WHATEVER THE INPUT: true; the input reads as it did. -/
def nquadsPrintsSpec : ChangeSpec := { name := "nquadsPrints", fn := fun _ => fun
  | [d1, d2] => { results := [.lit (.bool true)], args := [d1, d2] }
  | _ => none }
def nquadsPrintsRow : OpenClaim := { program := "ytdegonmkikfghaagreatdoor", sum := "ed4f158bb6b1d5dff52ec19a1d6a7bea3a9d2593b15dba4fc631f4ac60d714e1", func := "tessera/tesseralaw09.NquadsPrints", spec := "nquadsPrints", inPlace := ["internal/bytealg.IndexByteString", "internal/bytealg.IndexString", "internal/bytealg.CountString", "internal/bytealg.abigen_runtime_cmpstring", "internal/abi.NoEscape"], unfollowed := true, recurses := true, named := ["tessera/names.basesTable", "unicode/utf8.first", "unicode/utf8.acceptRanges", "internal/bytealg.MaxLen"], plainKeys := false, apart := false, laid := [("unicode/utf8.acceptRanges", laid_unicode_utf8_acceptRanges), ("tessera/names.basesTable", laid_tessera_names_basesTable), ("unicode/utf8.first", laid_unicode_utf8_first)] }
def NquadsPrintsSaid : Prop := nquadsPrintsRow.holds Tryz.pinned (OpenSpec.ofChange nquadsPrintsSpec)

/-- ITS FALSE NEIGHBOUR: 'it returns false'. Refute it at one input. -/
def nquadsPrintsWrong : ChangeSpec := { name := "nquadsPrints", fn := fun _ => fun
  | [d1, d2] => { results := [.lit (.bool false)], args := [d1, d2] }
  | _ => none }
def NquadsPrintsWrongFalsely : Prop := nquadsPrintsRow.holds Tryz.pinned (OpenSpec.ofChange nquadsPrintsWrong)

/-- 'tesseralaw09.NquadsLines': WHATEVER THE INPUT: true; the input reads as it did. -/
def nquadsLinesSpec : ChangeSpec := { name := "nquadsLines", fn := fun _ => fun
  | [d1, d2] => { results := [.lit (.bool true)], args := [d1, d2] }
  | _ => none }
def nquadsLinesRow : OpenClaim := { program := "ytdegonmkikfghaagreatdoor", sum := "ed4f158bb6b1d5dff52ec19a1d6a7bea3a9d2593b15dba4fc631f4ac60d714e1", func := "tessera/tesseralaw09.NquadsLines", spec := "nquadsLines", inPlace := ["internal/bytealg.IndexByteString", "internal/abi.NoEscape", "internal/bytealg.IndexString", "internal/bytealg.CountString"], unfollowed := true, recurses := true, named := ["tessera/names.basesTable", "unicode/utf8.first", "unicode/utf8.acceptRanges", "internal/bytealg.MaxLen"], plainKeys := false, apart := false, laid := [("unicode/utf8.acceptRanges", laid_unicode_utf8_acceptRanges), ("tessera/names.basesTable", laid_tessera_names_basesTable), ("unicode/utf8.first", laid_unicode_utf8_first)] }
def NquadsLinesSaid : Prop := nquadsLinesRow.holds Tryz.pinned (OpenSpec.ofChange nquadsLinesSpec)

/-- ITS FALSE NEIGHBOUR: 'it returns false'. Refute it at one input. -/
def nquadsLinesWrong : ChangeSpec := { name := "nquadsLines", fn := fun _ => fun
  | [d1, d2] => { results := [.lit (.bool false)], args := [d1, d2] }
  | _ => none }
def NquadsLinesWrongFalsely : Prop := nquadsLinesRow.holds Tryz.pinned (OpenSpec.ofChange nquadsLinesWrong)

/-- 'tesseralaw09.NquadsEach': WHATEVER THE INPUT: true; the input reads as it did. -/
def nquadsEachSpec : ChangeSpec := { name := "nquadsEach", fn := fun _ => fun
  | [d1, d2, d3] => { results := [.lit (.bool true)], args := [d1, d2, d3] }
  | _ => none }
def nquadsEachRow : OpenClaim := { program := "ytdegonmkikfghaagreatdoor", sum := "ed4f158bb6b1d5dff52ec19a1d6a7bea3a9d2593b15dba4fc631f4ac60d714e1", func := "tessera/tesseralaw09.NquadsEach", spec := "nquadsEach", inPlace := ["internal/bytealg.IndexByteString", "internal/bytealg.IndexByte", "internal/bytealg.Index", "internal/bytealg.IndexString", "internal/abi.NoEscape", "internal/bytealg.CountString", "internal/reflectlite.ValueOf", "(internal/reflectlite.Value).Type", "(internal/reflectlite.Value).IsNil", "internal/reflectlite.TypeOf", "(internal/reflectlite.Value).Elem", "(internal/reflectlite.Value).Set"], unfollowed := true, recurses := true, named := ["internal/bytealg.MaxLen", "unicode/utf8.first", "unicode/utf8.acceptRanges", "tessera/names.basesTable", "errors.errorType"], plainKeys := false, apart := false, laid := [("unicode/utf8.acceptRanges", laid_unicode_utf8_acceptRanges), ("errors.errorType", laid_errors_errorType), ("tessera/names.basesTable", laid_tessera_names_basesTable), ("unicode/utf8.first", laid_unicode_utf8_first)] }
def NquadsEachSaid : Prop := nquadsEachRow.holds Tryz.pinned (OpenSpec.ofChange nquadsEachSpec)

/-- ITS FALSE NEIGHBOUR: 'it returns false'. Refute it at one input. -/
def nquadsEachWrong : ChangeSpec := { name := "nquadsEach", fn := fun _ => fun
  | [d1, d2, d3] => { results := [.lit (.bool false)], args := [d1, d2, d3] }
  | _ => none }
def NquadsEachWrongFalsely : Prop := nquadsEachRow.holds Tryz.pinned (OpenSpec.ofChange nquadsEachWrong)

/-- 'tesseralaw09.NquadsParses': WHATEVER THE INPUT: true; the input reads as it did. -/
def nquadsParsesSpec : ChangeSpec := { name := "nquadsParses", fn := fun _ => fun
  | [d] => { results := [.lit (.bool true)], args := [d] }
  | _ => none }
def nquadsParsesRow : OpenClaim := { program := "ytdegonmkikfghaagreatdoor", sum := "ed4f158bb6b1d5dff52ec19a1d6a7bea3a9d2593b15dba4fc631f4ac60d714e1", func := "tessera/tesseralaw09.NquadsParses", spec := "nquadsParses", inPlace := ["internal/bytealg.IndexByteString", "internal/bytealg.IndexByte", "internal/bytealg.Index", "internal/bytealg.IndexString", "internal/abi.NoEscape", "internal/bytealg.CountString", "internal/reflectlite.ValueOf", "(internal/reflectlite.Value).Type", "(internal/reflectlite.Value).IsNil", "internal/reflectlite.TypeOf", "(internal/reflectlite.Value).Elem", "(internal/reflectlite.Value).Set", "internal/bytealg.abigen_runtime_cmpstring"], unfollowed := true, recurses := true, named := ["internal/bytealg.MaxLen", "unicode/utf8.first", "unicode/utf8.acceptRanges", "tessera/names.basesTable", "errors.errorType"], plainKeys := false, apart := false, laid := [("unicode/utf8.acceptRanges", laid_unicode_utf8_acceptRanges), ("errors.errorType", laid_errors_errorType), ("tessera/names.basesTable", laid_tessera_names_basesTable), ("unicode/utf8.first", laid_unicode_utf8_first)] }
def NquadsParsesSaid : Prop := nquadsParsesRow.holds Tryz.pinned (OpenSpec.ofChange nquadsParsesSpec)

/-- ITS FALSE NEIGHBOUR: 'it returns false'. Refute it at one input. -/
def nquadsParsesWrong : ChangeSpec := { name := "nquadsParses", fn := fun _ => fun
  | [d] => { results := [.lit (.bool false)], args := [d] }
  | _ => none }
def NquadsParsesWrongFalsely : Prop := nquadsParsesRow.holds Tryz.pinned (OpenSpec.ofChange nquadsParsesWrong)

/-- 'tesseralaw09.NquadsBack': WHATEVER THE INPUT: true; the input reads as it did. -/
def nquadsBackSpec : ChangeSpec := { name := "nquadsBack", fn := fun _ => fun
  | [d1, d2, d3] => { results := [.lit (.bool true)], args := [d1, d2, d3] }
  | _ => none }
def nquadsBackRow : OpenClaim := { program := "ytdegonmkikfghaagreatdoor", sum := "ed4f158bb6b1d5dff52ec19a1d6a7bea3a9d2593b15dba4fc631f4ac60d714e1", func := "tessera/tesseralaw09.NquadsBack", spec := "nquadsBack", inPlace := ["internal/bytealg.IndexByteString", "internal/bytealg.IndexByte", "internal/bytealg.Index", "internal/bytealg.IndexString", "internal/abi.NoEscape", "internal/bytealg.CountString", "internal/reflectlite.ValueOf", "(internal/reflectlite.Value).Type", "(internal/reflectlite.Value).IsNil", "internal/reflectlite.TypeOf", "(internal/reflectlite.Value).Elem", "(internal/reflectlite.Value).Set", "internal/bytealg.abigen_runtime_cmpstring"], unfollowed := true, recurses := true, named := ["internal/bytealg.MaxLen", "unicode/utf8.first", "unicode/utf8.acceptRanges", "tessera/names.basesTable", "errors.errorType"], plainKeys := false, apart := false, laid := [("unicode/utf8.acceptRanges", laid_unicode_utf8_acceptRanges), ("errors.errorType", laid_errors_errorType), ("tessera/names.basesTable", laid_tessera_names_basesTable), ("unicode/utf8.first", laid_unicode_utf8_first)] }
def NquadsBackSaid : Prop := nquadsBackRow.holds Tryz.pinned (OpenSpec.ofChange nquadsBackSpec)

/-- ITS FALSE NEIGHBOUR: 'it returns false'. Refute it at one input. -/
def nquadsBackWrong : ChangeSpec := { name := "nquadsBack", fn := fun _ => fun
  | [d1, d2, d3] => { results := [.lit (.bool false)], args := [d1, d2, d3] }
  | _ => none }
def NquadsBackWrongFalsely : Prop := nquadsBackRow.holds Tryz.pinned (OpenSpec.ofChange nquadsBackWrong)

/-- 'tesseralaw09.NquadsLoose': WHATEVER THE INPUT: true; the input reads as it did. -/
def nquadsLooseSpec : ChangeSpec := { name := "nquadsLoose", fn := fun _ => fun
  | [d] => { results := [.lit (.bool true)], args := [d] }
  | _ => none }
def nquadsLooseRow : OpenClaim := { program := "ytdegonmkikfghaagreatdoor", sum := "ed4f158bb6b1d5dff52ec19a1d6a7bea3a9d2593b15dba4fc631f4ac60d714e1", func := "tessera/tesseralaw09.NquadsLoose", spec := "nquadsLoose", inPlace := ["internal/bytealg.IndexByteString", "internal/bytealg.IndexByte", "internal/bytealg.Index", "internal/bytealg.IndexString", "internal/abi.NoEscape", "internal/bytealg.CountString", "internal/reflectlite.ValueOf", "(internal/reflectlite.Value).Type", "(internal/reflectlite.Value).IsNil", "internal/reflectlite.TypeOf", "(internal/reflectlite.Value).Elem", "(internal/reflectlite.Value).Set", "internal/bytealg.abigen_runtime_cmpstring"], unfollowed := true, recurses := true, named := ["internal/bytealg.MaxLen", "unicode/utf8.first", "unicode/utf8.acceptRanges", "tessera/names.basesTable", "errors.errorType"], plainKeys := false, apart := false, laid := [("unicode/utf8.acceptRanges", laid_unicode_utf8_acceptRanges), ("errors.errorType", laid_errors_errorType), ("tessera/names.basesTable", laid_tessera_names_basesTable), ("unicode/utf8.first", laid_unicode_utf8_first)] }
def NquadsLooseSaid : Prop := nquadsLooseRow.holds Tryz.pinned (OpenSpec.ofChange nquadsLooseSpec)

/-- ITS FALSE NEIGHBOUR: 'it returns false'. Refute it at one input. -/
def nquadsLooseWrong : ChangeSpec := { name := "nquadsLoose", fn := fun _ => fun
  | [d] => { results := [.lit (.bool false)], args := [d] }
  | _ => none }
def NquadsLooseWrongFalsely : Prop := nquadsLooseRow.holds Tryz.pinned (OpenSpec.ofChange nquadsLooseWrong)

/-- 'tesseralaw09.NquadsFirst': WHATEVER THE INPUT: true; the input reads as it did. -/
def nquadsFirstSpec : ChangeSpec := { name := "nquadsFirst", fn := fun _ => fun
  | [d] => { results := [.lit (.bool true)], args := [d] }
  | _ => none }
def nquadsFirstRow : OpenClaim := { program := "ytdegonmkikfghaagreatdoor", sum := "ed4f158bb6b1d5dff52ec19a1d6a7bea3a9d2593b15dba4fc631f4ac60d714e1", func := "tessera/tesseralaw09.NquadsFirst", spec := "nquadsFirst", inPlace := ["internal/bytealg.IndexByteString", "internal/bytealg.IndexByte", "internal/bytealg.Index", "internal/bytealg.IndexString", "internal/abi.NoEscape", "internal/bytealg.CountString", "internal/reflectlite.ValueOf", "(internal/reflectlite.Value).Type", "(internal/reflectlite.Value).IsNil", "internal/reflectlite.TypeOf", "(internal/reflectlite.Value).Elem", "(internal/reflectlite.Value).Set", "internal/bytealg.abigen_runtime_cmpstring"], unfollowed := true, recurses := true, named := ["internal/bytealg.MaxLen", "unicode/utf8.first", "unicode/utf8.acceptRanges", "tessera/names.basesTable", "errors.errorType"], plainKeys := false, apart := false, laid := [("unicode/utf8.acceptRanges", laid_unicode_utf8_acceptRanges), ("errors.errorType", laid_errors_errorType), ("tessera/names.basesTable", laid_tessera_names_basesTable), ("unicode/utf8.first", laid_unicode_utf8_first)] }
def NquadsFirstSaid : Prop := nquadsFirstRow.holds Tryz.pinned (OpenSpec.ofChange nquadsFirstSpec)

/-- ITS FALSE NEIGHBOUR: 'it returns false'. Refute it at one input. -/
def nquadsFirstWrong : ChangeSpec := { name := "nquadsFirst", fn := fun _ => fun
  | [d] => { results := [.lit (.bool false)], args := [d] }
  | _ => none }
def NquadsFirstWrongFalsely : Prop := nquadsFirstRow.holds Tryz.pinned (OpenSpec.ofChange nquadsFirstWrong)

/-- 'tesseralaw09.NquadsJoins': WHATEVER THE INPUT: true; the input reads as it did. -/
def nquadsJoinsSpec : ChangeSpec := { name := "nquadsJoins", fn := fun _ => fun
  | [d1, d2] => { results := [.lit (.bool true)], args := [d1, d2] }
  | _ => none }
def nquadsJoinsRow : OpenClaim := { program := "ytdegonmkikfghaagreatdoor", sum := "ed4f158bb6b1d5dff52ec19a1d6a7bea3a9d2593b15dba4fc631f4ac60d714e1", func := "tessera/tesseralaw09.NquadsJoins", spec := "nquadsJoins", inPlace := ["internal/bytealg.IndexByteString", "internal/bytealg.IndexByte", "internal/bytealg.Index", "internal/bytealg.IndexString", "internal/abi.NoEscape", "internal/bytealg.CountString", "internal/reflectlite.ValueOf", "(internal/reflectlite.Value).Type", "(internal/reflectlite.Value).IsNil", "internal/reflectlite.TypeOf", "(internal/reflectlite.Value).Elem", "(internal/reflectlite.Value).Set", "internal/bytealg.abigen_runtime_cmpstring"], unfollowed := true, recurses := true, named := ["internal/bytealg.MaxLen", "unicode/utf8.first", "unicode/utf8.acceptRanges", "tessera/names.basesTable", "errors.errorType"], plainKeys := false, apart := false, laid := [("unicode/utf8.acceptRanges", laid_unicode_utf8_acceptRanges), ("errors.errorType", laid_errors_errorType), ("tessera/names.basesTable", laid_tessera_names_basesTable), ("unicode/utf8.first", laid_unicode_utf8_first)] }
def NquadsJoinsSaid : Prop := nquadsJoinsRow.holds Tryz.pinned (OpenSpec.ofChange nquadsJoinsSpec)

/-- ITS FALSE NEIGHBOUR: 'it returns false'. Refute it at one input. -/
def nquadsJoinsWrong : ChangeSpec := { name := "nquadsJoins", fn := fun _ => fun
  | [d1, d2] => { results := [.lit (.bool false)], args := [d1, d2] }
  | _ => none }
def NquadsJoinsWrongFalsely : Prop := nquadsJoinsRow.holds Tryz.pinned (OpenSpec.ofChange nquadsJoinsWrong)

/- THE SECOND FORM. 'bulk': how many values and letters a reading holds, each counted each time it is reached (what is shared counts as often as it is met; a slice's spare places count too). A statement '..UptoSaid' is the law's where the arguments, and the package variables that the reading takes, are together of bulk at most 1048576: NARROWER than '..Said'. Prove '..Said' where nothing that the law and all that it calls make is longer than what came in: it says more and counts as full. Else prove '..UptoSaid'. A law counts once. -/
mutual
def uptoBulk {H : Type} : DataW H → Nat
  | .lit (.string bytes) => bytes.length + 1
  | .lit _ => 1
  | .nil => 1
  | .ptr d => uptoBulk d + 1
  | .slice elems spare => uptoBulkAll elems + uptoBulkAll spare + 1
  | .agg parts => uptoBulkAll parts + 1
  | .iface _ d => uptoBulk d + 1
  | .map entries => uptoBulkEntries entries + 1
  | .held _ => 1
def uptoBulkAll {H : Type} : List (DataW H) → Nat
  | [] => 0
  | d :: r => uptoBulk d + uptoBulkAll r
def uptoBulkEntries {H : Type} : List (Lit × DataW H) → Nat
  | [] => 0
  | x :: r => uptoBulkEntry x + uptoBulkEntries r
def uptoBulkEntry {H : Type} : Lit × DataW H → Nat
  | (.string bytes, d) => bytes.length + uptoBulk d + 1
  | (_, d) => uptoBulk d + 1
 end
def uptoSmall : (H : Type) → List (DataW H) → Bool := fun _ ds => decide (uptoBulkAll ds ≤ 1048576)
def OpenSpec.upto (s : _root_.Go.ChangeSpec) : _root_.Go.OpenSpec := { _root_.Go.OpenSpec.ofChange s with cond := some uptoSmall }

/-- 'tesseralaw09.NquadsPrints', WHERE WHAT IT READS IS OF BULK AT MOST 1048576: true; the input reads as it did. -/
def nquadsPrintsUptoRow : OpenClaim := { program := "ytdegonmkikfghaagreatdoor", sum := "ed4f158bb6b1d5dff52ec19a1d6a7bea3a9d2593b15dba4fc631f4ac60d714e1", func := "tessera/tesseralaw09.NquadsPrints", spec := "nquadsPrints", inPlace := ["internal/bytealg.IndexByteString", "internal/bytealg.IndexString", "internal/bytealg.CountString", "internal/bytealg.abigen_runtime_cmpstring", "internal/abi.NoEscape"], unfollowed := true, recurses := true, named := ["tessera/names.basesTable", "unicode/utf8.first", "unicode/utf8.acceptRanges", "internal/bytealg.MaxLen"], plainKeys := false, apart := false, laid := [("unicode/utf8.acceptRanges", laid_unicode_utf8_acceptRanges), ("tessera/names.basesTable", laid_tessera_names_basesTable), ("unicode/utf8.first", laid_unicode_utf8_first)], narrowed := true }
def NquadsPrintsUptoSaid : Prop := nquadsPrintsUptoRow.holds Tryz.pinned (OpenSpec.upto nquadsPrintsSpec)

/-- 'tesseralaw09.NquadsLines', WHERE WHAT IT READS IS OF BULK AT MOST 1048576: true; the input reads as it did. -/
def nquadsLinesUptoRow : OpenClaim := { program := "ytdegonmkikfghaagreatdoor", sum := "ed4f158bb6b1d5dff52ec19a1d6a7bea3a9d2593b15dba4fc631f4ac60d714e1", func := "tessera/tesseralaw09.NquadsLines", spec := "nquadsLines", inPlace := ["internal/bytealg.IndexByteString", "internal/abi.NoEscape", "internal/bytealg.IndexString", "internal/bytealg.CountString"], unfollowed := true, recurses := true, named := ["tessera/names.basesTable", "unicode/utf8.first", "unicode/utf8.acceptRanges", "internal/bytealg.MaxLen"], plainKeys := false, apart := false, laid := [("unicode/utf8.acceptRanges", laid_unicode_utf8_acceptRanges), ("tessera/names.basesTable", laid_tessera_names_basesTable), ("unicode/utf8.first", laid_unicode_utf8_first)], narrowed := true }
def NquadsLinesUptoSaid : Prop := nquadsLinesUptoRow.holds Tryz.pinned (OpenSpec.upto nquadsLinesSpec)

/-- 'tesseralaw09.NquadsEach', WHERE WHAT IT READS IS OF BULK AT MOST 1048576: true; the input reads as it did. -/
def nquadsEachUptoRow : OpenClaim := { program := "ytdegonmkikfghaagreatdoor", sum := "ed4f158bb6b1d5dff52ec19a1d6a7bea3a9d2593b15dba4fc631f4ac60d714e1", func := "tessera/tesseralaw09.NquadsEach", spec := "nquadsEach", inPlace := ["internal/bytealg.IndexByteString", "internal/bytealg.IndexByte", "internal/bytealg.Index", "internal/bytealg.IndexString", "internal/abi.NoEscape", "internal/bytealg.CountString", "internal/reflectlite.ValueOf", "(internal/reflectlite.Value).Type", "(internal/reflectlite.Value).IsNil", "internal/reflectlite.TypeOf", "(internal/reflectlite.Value).Elem", "(internal/reflectlite.Value).Set"], unfollowed := true, recurses := true, named := ["internal/bytealg.MaxLen", "unicode/utf8.first", "unicode/utf8.acceptRanges", "tessera/names.basesTable", "errors.errorType"], plainKeys := false, apart := false, laid := [("unicode/utf8.acceptRanges", laid_unicode_utf8_acceptRanges), ("errors.errorType", laid_errors_errorType), ("tessera/names.basesTable", laid_tessera_names_basesTable), ("unicode/utf8.first", laid_unicode_utf8_first)], narrowed := true }
def NquadsEachUptoSaid : Prop := nquadsEachUptoRow.holds Tryz.pinned (OpenSpec.upto nquadsEachSpec)

/-- 'tesseralaw09.NquadsParses', WHERE WHAT IT READS IS OF BULK AT MOST 1048576: true; the input reads as it did. -/
def nquadsParsesUptoRow : OpenClaim := { program := "ytdegonmkikfghaagreatdoor", sum := "ed4f158bb6b1d5dff52ec19a1d6a7bea3a9d2593b15dba4fc631f4ac60d714e1", func := "tessera/tesseralaw09.NquadsParses", spec := "nquadsParses", inPlace := ["internal/bytealg.IndexByteString", "internal/bytealg.IndexByte", "internal/bytealg.Index", "internal/bytealg.IndexString", "internal/abi.NoEscape", "internal/bytealg.CountString", "internal/reflectlite.ValueOf", "(internal/reflectlite.Value).Type", "(internal/reflectlite.Value).IsNil", "internal/reflectlite.TypeOf", "(internal/reflectlite.Value).Elem", "(internal/reflectlite.Value).Set", "internal/bytealg.abigen_runtime_cmpstring"], unfollowed := true, recurses := true, named := ["internal/bytealg.MaxLen", "unicode/utf8.first", "unicode/utf8.acceptRanges", "tessera/names.basesTable", "errors.errorType"], plainKeys := false, apart := false, laid := [("unicode/utf8.acceptRanges", laid_unicode_utf8_acceptRanges), ("errors.errorType", laid_errors_errorType), ("tessera/names.basesTable", laid_tessera_names_basesTable), ("unicode/utf8.first", laid_unicode_utf8_first)], narrowed := true }
def NquadsParsesUptoSaid : Prop := nquadsParsesUptoRow.holds Tryz.pinned (OpenSpec.upto nquadsParsesSpec)

/-- 'tesseralaw09.NquadsBack', WHERE WHAT IT READS IS OF BULK AT MOST 1048576: true; the input reads as it did. -/
def nquadsBackUptoRow : OpenClaim := { program := "ytdegonmkikfghaagreatdoor", sum := "ed4f158bb6b1d5dff52ec19a1d6a7bea3a9d2593b15dba4fc631f4ac60d714e1", func := "tessera/tesseralaw09.NquadsBack", spec := "nquadsBack", inPlace := ["internal/bytealg.IndexByteString", "internal/bytealg.IndexByte", "internal/bytealg.Index", "internal/bytealg.IndexString", "internal/abi.NoEscape", "internal/bytealg.CountString", "internal/reflectlite.ValueOf", "(internal/reflectlite.Value).Type", "(internal/reflectlite.Value).IsNil", "internal/reflectlite.TypeOf", "(internal/reflectlite.Value).Elem", "(internal/reflectlite.Value).Set", "internal/bytealg.abigen_runtime_cmpstring"], unfollowed := true, recurses := true, named := ["internal/bytealg.MaxLen", "unicode/utf8.first", "unicode/utf8.acceptRanges", "tessera/names.basesTable", "errors.errorType"], plainKeys := false, apart := false, laid := [("unicode/utf8.acceptRanges", laid_unicode_utf8_acceptRanges), ("errors.errorType", laid_errors_errorType), ("tessera/names.basesTable", laid_tessera_names_basesTable), ("unicode/utf8.first", laid_unicode_utf8_first)], narrowed := true }
def NquadsBackUptoSaid : Prop := nquadsBackUptoRow.holds Tryz.pinned (OpenSpec.upto nquadsBackSpec)

/-- 'tesseralaw09.NquadsLoose', WHERE WHAT IT READS IS OF BULK AT MOST 1048576: true; the input reads as it did. -/
def nquadsLooseUptoRow : OpenClaim := { program := "ytdegonmkikfghaagreatdoor", sum := "ed4f158bb6b1d5dff52ec19a1d6a7bea3a9d2593b15dba4fc631f4ac60d714e1", func := "tessera/tesseralaw09.NquadsLoose", spec := "nquadsLoose", inPlace := ["internal/bytealg.IndexByteString", "internal/bytealg.IndexByte", "internal/bytealg.Index", "internal/bytealg.IndexString", "internal/abi.NoEscape", "internal/bytealg.CountString", "internal/reflectlite.ValueOf", "(internal/reflectlite.Value).Type", "(internal/reflectlite.Value).IsNil", "internal/reflectlite.TypeOf", "(internal/reflectlite.Value).Elem", "(internal/reflectlite.Value).Set", "internal/bytealg.abigen_runtime_cmpstring"], unfollowed := true, recurses := true, named := ["internal/bytealg.MaxLen", "unicode/utf8.first", "unicode/utf8.acceptRanges", "tessera/names.basesTable", "errors.errorType"], plainKeys := false, apart := false, laid := [("unicode/utf8.acceptRanges", laid_unicode_utf8_acceptRanges), ("errors.errorType", laid_errors_errorType), ("tessera/names.basesTable", laid_tessera_names_basesTable), ("unicode/utf8.first", laid_unicode_utf8_first)], narrowed := true }
def NquadsLooseUptoSaid : Prop := nquadsLooseUptoRow.holds Tryz.pinned (OpenSpec.upto nquadsLooseSpec)

/-- 'tesseralaw09.NquadsFirst', WHERE WHAT IT READS IS OF BULK AT MOST 1048576: true; the input reads as it did. -/
def nquadsFirstUptoRow : OpenClaim := { program := "ytdegonmkikfghaagreatdoor", sum := "ed4f158bb6b1d5dff52ec19a1d6a7bea3a9d2593b15dba4fc631f4ac60d714e1", func := "tessera/tesseralaw09.NquadsFirst", spec := "nquadsFirst", inPlace := ["internal/bytealg.IndexByteString", "internal/bytealg.IndexByte", "internal/bytealg.Index", "internal/bytealg.IndexString", "internal/abi.NoEscape", "internal/bytealg.CountString", "internal/reflectlite.ValueOf", "(internal/reflectlite.Value).Type", "(internal/reflectlite.Value).IsNil", "internal/reflectlite.TypeOf", "(internal/reflectlite.Value).Elem", "(internal/reflectlite.Value).Set", "internal/bytealg.abigen_runtime_cmpstring"], unfollowed := true, recurses := true, named := ["internal/bytealg.MaxLen", "unicode/utf8.first", "unicode/utf8.acceptRanges", "tessera/names.basesTable", "errors.errorType"], plainKeys := false, apart := false, laid := [("unicode/utf8.acceptRanges", laid_unicode_utf8_acceptRanges), ("errors.errorType", laid_errors_errorType), ("tessera/names.basesTable", laid_tessera_names_basesTable), ("unicode/utf8.first", laid_unicode_utf8_first)], narrowed := true }
def NquadsFirstUptoSaid : Prop := nquadsFirstUptoRow.holds Tryz.pinned (OpenSpec.upto nquadsFirstSpec)

/-- 'tesseralaw09.NquadsJoins', WHERE WHAT IT READS IS OF BULK AT MOST 1048576: true; the input reads as it did. -/
def nquadsJoinsUptoRow : OpenClaim := { program := "ytdegonmkikfghaagreatdoor", sum := "ed4f158bb6b1d5dff52ec19a1d6a7bea3a9d2593b15dba4fc631f4ac60d714e1", func := "tessera/tesseralaw09.NquadsJoins", spec := "nquadsJoins", inPlace := ["internal/bytealg.IndexByteString", "internal/bytealg.IndexByte", "internal/bytealg.Index", "internal/bytealg.IndexString", "internal/abi.NoEscape", "internal/bytealg.CountString", "internal/reflectlite.ValueOf", "(internal/reflectlite.Value).Type", "(internal/reflectlite.Value).IsNil", "internal/reflectlite.TypeOf", "(internal/reflectlite.Value).Elem", "(internal/reflectlite.Value).Set", "internal/bytealg.abigen_runtime_cmpstring"], unfollowed := true, recurses := true, named := ["internal/bytealg.MaxLen", "unicode/utf8.first", "unicode/utf8.acceptRanges", "tessera/names.basesTable", "errors.errorType"], plainKeys := false, apart := false, laid := [("unicode/utf8.acceptRanges", laid_unicode_utf8_acceptRanges), ("errors.errorType", laid_errors_errorType), ("tessera/names.basesTable", laid_tessera_names_basesTable), ("unicode/utf8.first", laid_unicode_utf8_first)], narrowed := true }
def NquadsJoinsUptoSaid : Prop := nquadsJoinsUptoRow.holds Tryz.pinned (OpenSpec.upto nquadsJoinsSpec)

end Rows
end Go.Proofs.YtdegonmkikfghaaGreatDoor
