/-
  utf.written, escape: contracts. By an AI agent.
-/
import Derived.Test.YtdhmpakhdhdebaaGreatDoorZEscW
import Derived.Test.YtdhmpakhdhdebaaGreatDoorShelf
namespace Go.Proofs.YtdhmpakhdhdebaaGreatDoor
open Go.RowKit
set_option maxRecDepth 100000
def letS : ByteArray := { data := #[116, 98, 110, 114, 102, 34, 39, 92] }
theorem ix_at (s : ByteArray) (c : Int) (k : Int) (h : Lib.indexByte s.data.toList c.toNat.toUInt8 = k) (u : World) :
   Calls Tryz.prog 72 #[.string s, .int .u8 c] u fun e w' => e = .returned (.int .i64 k) /\ w' = u := h ▸ Tryz.strings_IndexByte s c u
end Go.Proofs.YtdhmpakhdhdebaaGreatDoor
