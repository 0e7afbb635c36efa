/-
  names.Spell: contract. By an AI agent.
  The reference's LabelAt: contract. By an AI agent.
  The reference's Spell: contract. By an AI agent.
-/
import Derived.Test.YtmnigckpejcaeaaGreatDoorZChars
import Derived.Test.YtmnigckpejcaeaaGreatDoorZQuad0
import Derived.Test.YtmnigckpejcaeaaGreatDoorZGPlain
import Derived.Test.YtmnigckpejcaeaaGreatDoorShelf
import Derived.Test.YtmnigckpejcaeaaGreatDoorZBuilder
import Derived.Test.YtmnigckpejcaeaaGreatDoorZGUtf
namespace Go.Proofs.YtmnigckpejcaeaaGreatDoor
open Go.RowKit
set_option maxRecDepth 100000
theorem builderString_l (B_ b : Nat) (l : List UInt8) (w : World) (h : BuildsB w B_ b l) (hBw : B_ <= w.heap.size) :
   Calls Tryz.prog 74 #[.pointer (some ⟨b, 0, none⟩)] w fun e w' => e = .returned (.string (B l)) /\ Below B_ w w' :=
 Tryz.Builder_String_any B_ b l w h hBw
theorem cat92 (m : List UInt8) : (⟨#[92]⟩ : ByteArray) ++ B m = B (92 :: m) := B_append [92] m
attribute [go_sem] cat92
end Go.Proofs.YtmnigckpejcaeaaGreatDoor
namespace Go.Proofs.YtmnigckpejcaeaaGreatDoor
open Go.RowKit
set_option maxRecDepth 100000
end Go.Proofs.YtmnigckpejcaeaaGreatDoor
namespace Go.Proofs.YtmnigckpejcaeaaGreatDoor
open Go.RowKit
set_option maxRecDepth 100000
end Go.Proofs.YtmnigckpejcaeaaGreatDoor
