/-
  strings.Split at a hyphen, as the walks want it. By an AI agent.
-/
import Derived.Test.YthipcepgbegaiaaDoorShelf
import Derived.Test.YthipcepgbegaiaaDoorZView
import Derived.Test.YthipcepgbegaiaaDoorZGPlain
import Derived.WalkSmall
namespace Go.Proofs.YthipcepgbegaiaaDoor
open Go.RowKit
set_option maxRecDepth 100000

/-- internal/bytealg.MaxLen holds some number. -/
def MaxAt (w : World) : Prop := ∃ m, w.cell? ⟨0, 0, none⟩ = some (.int .i64 m)
theorem MaxAt.below {w w' : World} (h : MaxAt w) (hb : Below w.heap.size w w') : MaxAt w' := by
  obtain ⟨m, hm⟩ := h
  exact ⟨m, by rw [hb.cell (p := ⟨0, 0, none⟩) (World.block_lt_of_cell? _ _ hm)]; exact hm⟩

theorem split_v (l x : List UInt8) (xs : List (List UInt8)) (h : partsOf l = x :: xs) (w : World) (hm : MaxAt w) (hl : l.length ≤ 16777216) :
    Calls Tryd.prog 55 #[.string (B l), .string { data := #[45] }] w fun e w' => ∃ b o cap, e = .returned (.slice (some ⟨b, o, none⟩) (xs.length + 1) cap) ∧ View w' (.slice (some ⟨b, o, none⟩) (xs.length + 1) cap) (x :: xs) ∧ Below w.heap.size w w' := by
  obtain ⟨m, hm⟩ := hm
  refine (Tryd.strings_Split (B l) ⟨#[45]⟩ m w (by rw [B_size]; omega) hm (by decide)).mono ?_
  rintro e w' ⟨rfl, rfl⟩
  obtain ⟨h1, h2⟩ := split_parts l
  rw [h] at h1 h2
  rw [h2]
  exact ⟨_, _, _, rfl, View.of_alloc w _ _ _ h1 _ rfl, (Below.refl _ w).alloc (Nat.le_refl _) _⟩

end Go.Proofs.YthipcepgbegaiaaDoor
