/-
  The closure within names.Join: contract. By an AI agent.
-/
import Derived.Test.YtdegonmkikfghaaGreatDoorZApp
import Derived.Test.YtdegonmkikfghaaGreatDoorZLower
import Derived.RangeFuncBox
namespace Go.Proofs.YtdegonmkikfghaaGreatDoor
open Go.RowKit
set_option maxRecDepth 100000
theorem grownBy_trans {w v u : World} {r : Option Nat} (h : w.grownBy v r) (h2 : v.grownBy u r) : w.grownBy u r :=
 ⟨h2.1.trans h.1, h2.2.trans h.2, h2.3.trans h.3, Nat.le_trans h.4 h2.4, fun b hb hn => (h2.5 b (Nat.lt_of_lt_of_le hb h.4) hn).trans (h.5 b hb hn)⟩
end Go.Proofs.YtdegonmkikfghaaGreatDoor
