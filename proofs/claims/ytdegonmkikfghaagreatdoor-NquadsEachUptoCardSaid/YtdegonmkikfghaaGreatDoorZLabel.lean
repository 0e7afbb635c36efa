/-
  names.Label, and what the reference needs for it: contracts. By an AI agent.
-/
import Derived.Test.YtdegonmkikfghaaGreatDoorZUtfCheck
import Derived.Test.YtdegonmkikfghaaGreatDoorZTagCells
import Derived.Deep.RegionHeld3
namespace Go.Proofs.YtdegonmkikfghaaGreatDoor
open Go.RowKit
set_option maxRecDepth 100000
theorem infoI64 : (Tryz.prog.info? 3).map (fun i => (i.zero, i.size, i.bytes)) = some (some (.int .i64 0), 1, 8) := by kernel_rfl
end Go.Proofs.YtdegonmkikfghaaGreatDoor
namespace Go.Proofs.YtdegonmkikfghaaGreatDoor
open Go.RowKit
set_option maxRecDepth 100000
def termV (t : TermL) : Value := .agg #[.int .i64 t.kind, .string (B t.text), .string (B t.type), .string (B t.lang)]
end Go.Proofs.YtdegonmkikfghaaGreatDoor
