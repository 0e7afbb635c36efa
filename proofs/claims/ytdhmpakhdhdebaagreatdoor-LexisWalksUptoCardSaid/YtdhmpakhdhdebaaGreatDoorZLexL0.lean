/-
  Tokens of a text: a token's own bytes, behind which a blank or nothing stands, are that token. No program in sight. By an AI agent.
-/
import Derived.Test.YtdhmpakhdhdebaaGreatDoorZTerm1
namespace Go.Proofs.YtdhmpakhdhdebaaGreatDoor
open Go.RowKit
set_option maxRecDepth 100000
def stopC (c : UInt8) : Bool := blankC c || c == 35
def Stop (l : List UInt8) (i : Nat) : Prop := l.length <= i \/ stopC (l.getD i 0) = true
end Go.Proofs.YtdhmpakhdhdebaaGreatDoor
