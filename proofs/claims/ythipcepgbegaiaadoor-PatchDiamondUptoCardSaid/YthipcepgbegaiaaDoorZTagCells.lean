/-
  A tag's cells. By an AI agent.
-/
import Derived.Test.YthipcepgbegaiaaDoorZApp
import Derived.Test.YthipcepgbegaiaaDoorZParts
namespace Go.Proofs.YthipcepgbegaiaaDoor
open Go.RowKit
set_option maxRecDepth 100000

/-- a tag's cells -/
def tagCells (t : TagL) (a1 a2 : Option Addr) (c1 c2 : Nat) : Array Value := #[.string (B t.lang), .string (B t.ext), .string (B t.script), .string (B t.region), .slice a1 t.vars.length c1, .slice a2 t.exts.length c2, .string (B t.priv)]
end Go.Proofs.YthipcepgbegaiaaDoor
