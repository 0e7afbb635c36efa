/-
  The reference's reader: language: contract. By an AI agent.
  The reference's reader: private: contract. By an AI agent.
-/
import Derived.Test.YtmnigckpejcaeaaGreatDoorZGTag1
import Derived.Test.YtmnigckpejcaeaaGreatDoorZLower
import Derived.Test.YtmnigckpejcaeaaGreatDoorZGPlain
import Derived.Test.YtmnigckpejcaeaaGreatDoorProg
import Derived.Deep.QuietTactic
import Derived.BigQuiet
import Derived.Test.YtmnigckpejcaeaaGreatDoorZKeep
namespace Go.Proofs.YtmnigckpejcaeaaGreatDoor
open Go.RowKit
set_option maxRecDepth 100000
end Go.Proofs.YtmnigckpejcaeaaGreatDoor
namespace Go.Proofs.YtmnigckpejcaeaaGreatDoor
open Go.RowKit
set_option maxRecDepth 100000
theorem ViewAt.at {w : World} {k o n cap : Nat} {xs : List (List UInt8)} (h : ViewAt w k (.slice (some ⟨k, o, none⟩) n cap) xs) : At w (some ⟨k, o, none⟩) (xs.map strV) := fun j hj => by
 obtain ⟨o', cap', he, _, hc⟩ := h
 injection he with h1 _ _
 injection h1 with h1
 injection h1 with _ h3
 subst h3
 refine ⟨k, o, rfl, ?_⟩
 rw [hc j (by simpa using hj)]
 simp
end Go.Proofs.YtmnigckpejcaeaaGreatDoor
