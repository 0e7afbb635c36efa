/-
  tesseraref07: iri, letter, quoted: contracts. By an AI agent.
-/
import Derived.Test.YtdhmpakhdhdebaaGreatDoorZRefTag0
import Derived.Test.YtdhmpakhdhdebaaGreatDoorZRefLabel
import Derived.Test.YtdhmpakhdhdebaaGreatDoorZSeen
namespace Go.Proofs.YtdhmpakhdhdebaaGreatDoor
open Go.RowKit
set_option maxRecDepth 100000
theorem byte_nei {c d : UInt8} (h : c ≠ d) : ((c.toNat : Int) != (d.toNat : Int)) = true := by rw [bne, byte_ne h]; rfl
theorem byte_eqi {c d : UInt8} (h : c = d) : ((c.toNat : Int) != (d.toNat : Int)) = false := by rw [bne, byte_eq h]; rfl
end Go.Proofs.YtdhmpakhdhdebaaGreatDoor
namespace Go.Proofs.YtdhmpakhdhdebaaGreatDoor
open Go.RowKit
set_option maxRecDepth 100000
theorem tagE_more {l : List UInt8} {j : Nat} (h : j < l.length) (hc : tagC l[j] = true) : tagE l j = tagE l (j + 1) := tagE_go h (by rw [show l.getD j 0 = l[j] by simp [List.getD, h]]; exact hc)
theorem tagE_here {l : List UInt8} {j : Nat} (h : j < l.length) (hc : tagC l[j] = false) : tagE l j = j := tagE_stop h (by rw [show l.getD j 0 = l[j] by simp [List.getD, h]]; exact hc)
theorem refTag_bad {s : List UInt8} (h : tagF s = none) (w : World) (hs : s.length <= 1400000) : Calls Tryz.prog 166 #[.string (B s)] w fun e w' => e = .returned (.tuple #[.agg #[.string ⟨#[]⟩, .string ⟨#[]⟩, .string ⟨#[]⟩, .string ⟨#[]⟩, .slice none 0 0, .slice none 0 0, .string ⟨#[]⟩], .int .i64 61]) /\ Below w.heap.size w w' :=
 (refTag_l s w hs).mono fun e w' hp => by
  rw [h] at hp
  exact hp
theorem refTag_ok {s : List UInt8} {t : TagL} (h : tagF s = some t) (w : World) (hs : s.length <= 1400000) : Calls Tryz.prog 166 #[.string (B s)] w fun e w' => (∃ x1 x2 x3 x4 x5 y5 z5 x6 y6 z6 x7, e = .returned (.tuple #[.agg #[.string x1, .string x2, .string x3, .string x4, .slice x5 y5 z5, .slice x6 y6 z6, .string x7], .int .i64 0])) /\ Below w.heap.size w w' :=
 (refTag_l s w hs).mono fun e w' hp => by
  rw [h] at hp
  obtain ⟨a1, a2, c1, c2, he, hb, _⟩ := hp
  exact ⟨⟨_, _, _, _, _, _, _, _, _, _, _, he⟩, hb⟩
end Go.Proofs.YtdhmpakhdhdebaaGreatDoor
