/-
  Lists of quads and patches that came in, as the walks want them; what the bound of an '..UptoSaid' gives of them. By an AI agent.
-/
import Derived.Test.YtdegonmkikfghaaGreatDoorZLaw
import Derived.Test.YtdegonmkikfghaaGreatDoorZApp
import Derived.Deep.Slices
import Derived.ChangeArms
import Derived.OpenShut
namespace Go.Proofs.YtdegonmkikfghaaGreatDoor
open Go.ChangeShapes Go.WideShapes Go.ChangeAt Go.RowKit Go.Deep
set_option maxRecDepth 100000
section
variable {H : Type} {enc : TypeId × Value → H} {W : World}
theorem four {α : Type} {l : List α} (h : l.length = 4) : ∃ a b c d, l = [a, b, c, d] := by
  match l, h with
  | [a, b, c, d], _ => exact ⟨a, b, c, d, rfl⟩
end
/-! the bound -/
end Go.Proofs.YtdegonmkikfghaaGreatDoor
