/-
  strings.Builder's WriteString on a builder that the call has made itself: contract (the kit's own is not laid at these dumps: the loader refuses copyCheck's panic, which no such builder comes to). By an AI agent.
-/
import Derived.Test.YtfocpjcbfbbpgaaGreatDoorZKit2
import Derived.Test.YtfocpjcbfbbpgaaGreatDoorProg
import Derived.Outline
import Derived.Lib.Builder
import Derived.Lib.AppendStr
namespace Go.Proofs.YtfocpjcbfbbpgaaGreatDoor
open Go.RowKit
set_option maxRecDepth 100000
theorem infoByte : (Tryz.prog.info? 5).map (fun i => (i.zero, i.size, i.bytes)) = some (some (.int .u8 0), 1, 1) := by kernel_rfl
theorem strCells_l (l : List UInt8) : Lib.strCells (B l) = l.map U8 := by simp [Lib.strCells, B, U8]
end Go.Proofs.YtfocpjcbfbbpgaaGreatDoor
