/-
  tesseraref04: Escape of a well-formed text, Unescape: contracts. By an AI agent.
-/
import Derived.Test.YtdhmpakhdhdebaaGreatDoorZEscW2
import Derived.Test.YtdhmpakhdhdebaaGreatDoorZGUtf
import Derived.Test.YtdhmpakhdhdebaaGreatDoorZEscW
import Derived.BigQuiet
import Derived.WalkSmall
import Derived.Test.YtdhmpakhdhdebaaGreatDoorZBuilder
import Derived.Laws.AppendOwn
import Derived.Test.YtdhmpakhdhdebaaGreatDoorZTerm1
import Derived.Test.YtdhmpakhdhdebaaGreatDoorZGTag1
import Derived.Test.YtdhmpakhdhdebaaGreatDoorZLower
import Derived.Test.YtdhmpakhdhdebaaGreatDoorZGPlain
import Derived.Test.YtdhmpakhdhdebaaGreatDoorProg
import Derived.Deep.QuietTactic
import Derived.Test.YtdhmpakhdhdebaaGreatDoorZKeep
import Derived.Test.YtdhmpakhdhdebaaGreatDoorZEscW4
import Derived.Test.YtdhmpakhdhdebaaGreatDoorZBarred
import Derived.Test.YtdhmpakhdhdebaaGreatDoorZUtfCheck
import Derived.Test.YtdhmpakhdhdebaaGreatDoorZTagCells
import Derived.Test.YtdhmpakhdhdebaaGreatDoorZLabel
import Derived.Deep.RegionHeld3
import Derived.Deep.RegionLaw
import Derived.Deep.CutBlock
import Derived.Outline
import Derived.Test.YtdhmpakhdhdebaaGreatDoorZSeen
namespace Go.Proofs.YtdhmpakhdhdebaaGreatDoor
open Go.RowKit
set_option maxRecDepth 100000
theorem byU_cells (r : Int) : (bytesOf r).map (Value.int .u8) = (byU r).map U8 := bytesU_cells r
end Go.Proofs.YtdhmpakhdhdebaaGreatDoor
namespace Go.Proofs.YtdhmpakhdhdebaaGreatDoor
open Go.RowKit
set_option maxRecDepth 100000
end Go.Proofs.YtdhmpakhdhdebaaGreatDoor
namespace Go.Proofs.YtdhmpakhdhdebaaGreatDoor
open Go.RowKit
set_option maxRecDepth 100000
theorem ViewAt.at {w : World} {k o n cap : Nat} {xs : List (List UInt8)} (h : ViewAt w k (.slice (some ⟨k, o, none⟩) n cap) xs) : At w (some ⟨k, o, none⟩) (xs.map strV) := fun j hj => by
 obtain ⟨o', cap', he, _, hc⟩ := h
 injection he with h1 _ _
 injection h1 with h1
 injection h1 with _ h3
 subst h3
 refine ⟨k, o, rfl, ?_⟩
 rw [hc j (by simpa using hj)]
 simp
end Go.Proofs.YtdhmpakhdhdebaaGreatDoor
namespace Go.Proofs.YtdhmpakhdhdebaaGreatDoor
open Go.RowKit
set_option maxRecDepth 100000
theorem byte_nei {c d : UInt8} (h : c ≠ d) : ((c.toNat : Int) != (d.toNat : Int)) = true := by rw [bne, byte_ne h]; rfl
theorem byte_eqi {c d : UInt8} (h : c = d) : ((c.toNat : Int) != (d.toNat : Int)) = false := by rw [bne, byte_eq h]; rfl
end Go.Proofs.YtdhmpakhdhdebaaGreatDoor
namespace Go.Proofs.YtdhmpakhdhdebaaGreatDoor
open Go.RowKit
set_option maxRecDepth 100000
theorem tagE_more {l : List UInt8} {j : Nat} (h : j < l.length) (hc : tagC l[j] = true) : tagE l j = tagE l (j + 1) := tagE_go h (by rw [show l.getD j 0 = l[j] by simp [List.getD, h]]; exact hc)
theorem tagE_here {l : List UInt8} {j : Nat} (h : j < l.length) (hc : tagC l[j] = false) : tagE l j = j := tagE_stop h (by rw [show l.getD j 0 = l[j] by simp [List.getD, h]]; exact hc)
end Go.Proofs.YtdhmpakhdhdebaaGreatDoor
