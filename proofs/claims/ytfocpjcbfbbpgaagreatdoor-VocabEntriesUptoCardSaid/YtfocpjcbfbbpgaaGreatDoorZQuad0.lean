/-
  Terms and quads as cells. By an AI agent.
-/
import Derived.Test.YtfocpjcbfbbpgaaGreatDoorZTerm0
import Derived.Test.YtfocpjcbfbbpgaaGreatDoorZGPlain
import Derived.Deep.MidRow
namespace Go.Proofs.YtfocpjcbfbbpgaaGreatDoor
open Go.RowKit
set_option maxRecDepth 100000
def termC (t : TermL) : List Value := [.int .i64 t.kind, .string (B t.text), .string (B t.type), .string (B t.lang)]
end Go.Proofs.YtfocpjcbfbbpgaaGreatDoor
