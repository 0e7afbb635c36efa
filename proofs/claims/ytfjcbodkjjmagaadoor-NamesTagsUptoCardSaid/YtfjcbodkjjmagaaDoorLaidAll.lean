/-
  A world for a witness, in which the listed tables lie. By an AI agent.
-/
import Derived.Test.YtfjcbodkjjmagaaDoorLaidBases
import GoSem.PinnedTables
namespace Go.Proofs.YtfjcbodkjjmagaaDoor
open Go.RowKit
set_option maxRecDepth 100000
noncomputable def layG (g : Nat) (cs : List Value) (w : World) : World :=
  { w with heap := w.heap.modify g fun
      | .cells _ t frozen => .cells cs.toArray t frozen
      | o => o }
def acceptL : List Int := [128, 191, 160, 191, 128, 159, 144, 191, 128, 143, 0, 0, 0, 0, 0, 0, 0, 0, 0, 0, 0, 0, 0, 0, 0, 0, 0, 0, 0, 0, 0, 0]
noncomputable def tablesWorld (os : Os) : World :=
  layG 3 (Go.Pinned.utf8FirstZ.map fun (n : Nat) => Value.int .u8 (Int.ofNat n)) (layG 4 (acceptL.map (Value.int .u8)) (layG 0 (basesL.map (Value.int .i32)) (World.holding Tryd.prog os ⟨#[], #[], []⟩)))
end Go.Proofs.YtfjcbodkjjmagaaDoor
