/-
  tesseralaw09.awake: a contract. By an AI agent.
-/
import Derived.Test.YtdegonmkikfghaaGreatDoorZKeyQ
import Derived.Lib.SlBytesConst
import Derived.Test.YtdegonmkikfghaaGreatDoorZSeen
import Derived.Test.YtdegonmkikfghaaGreatDoorZNextR0
namespace Go.Proofs.YtdegonmkikfghaaGreatDoor
open Go.RowKit
set_option maxRecDepth 1000000
theorem QFresh.one {b : Nat} {v : Value} {q : QuadL} {w : World} (h : QFresh b v [q] w) : ∃ g, v = .slice (some ⟨g, 0, none⟩) 1 1 /\ QHold w g [q] := by
 rcases h with ⟨h, _⟩ | ⟨g, _, _, h1, h2⟩
 ·cases h
 ·exact ⟨g, h1, h2⟩
end Go.Proofs.YtdegonmkikfghaaGreatDoor
namespace Go.Proofs.YtdegonmkikfghaaGreatDoor
open Go.RowKit
set_option maxRecDepth 1000000
theorem lines_few (l : List UInt8) (h : l.length <= 1048576) : (linesL l 0).length <= 1048576 := Nat.le_trans (linesL_len l l.length 0 (by omega)) (by omega)
end Go.Proofs.YtdegonmkikfghaaGreatDoor
