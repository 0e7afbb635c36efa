/-
  The reference's both: contract. By an AI agent.
-/
import Derived.Test.YtdegonmkikfghaaGreatDoorZRefTerm0
import Derived.BigQuiet
namespace Go.Proofs.YtdegonmkikfghaaGreatDoor
open Go.RowKit
set_option maxRecDepth 100000
theorem QView.form' {w : World} {v : Value} {l : List QuadL} (h : QView w v l) : ∃ a c, v = .slice a l.length c := by
 obtain ⟨a, c, rfl, _⟩ := h
 exact ⟨a, c, rfl⟩
theorem QView.place1 {w : World} {a : Option Addr} {n c : Nat} {l : List QuadL} (h : QView w (.slice a n c) l) (h0 : 0 < l.length) : ∃ b o, a = some ⟨b, o, none⟩ := by
 obtain ⟨a', cap, he, _, hq⟩ := h
 cases he
 exact hq.place h0
theorem QView.get1 {w : World} {b o n c : Nat} {l : List QuadL} (h : QView w (.slice (some ⟨b, o, none⟩) n c) l) {k : Nat} (hk : k < l.length) : w.rangeAt b (o + k * 16) (quadC l[k]) := by
 obtain ⟨a', cap, he, _, hq⟩ := h
 cases he
 exact hq.get hk
end Go.Proofs.YtdegonmkikfghaaGreatDoor
