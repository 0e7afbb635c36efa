/-
  The reference's CheckQuad: contract. By an AI agent.
-/
import Derived.Test.YtmnigckpejcaeaaGreatDoorZLoadQ
import Derived.Test.YtmnigckpejcaeaaGreatDoorZTerm0
import Derived.Laws.Cover1
import Derived.Test.YtmnigckpejcaeaaGreatDoorZQuad0
import Derived.WalkLawsBesides
import Derived.Test.YtmnigckpejcaeaaGreatDoorZTermD
import Derived.Test.YtmnigckpejcaeaaGreatDoorZSets
import Derived.Test.YtmnigckpejcaeaaGreatDoorZApp
import Derived.Test.YtmnigckpejcaeaaGreatDoorZPatch0
import Derived.IntWalk
import Derived.Deep.QuietTactic
import Derived.BigQuiet
import Derived.Deep.Cut
namespace Go.Proofs.YtmnigckpejcaeaaGreatDoor
open Go.RowKit
set_option maxRecDepth 100000
theorem kneR {k n : Int} (h : k ≠ n) : (k == n) = false /\ (k != n) = true := by simp [h]
end Go.Proofs.YtmnigckpejcaeaaGreatDoor
namespace Go.Proofs.YtmnigckpejcaeaaGreatDoor
open Go.RowKit
set_option maxRecDepth 100000
theorem held_2 {w w' : World} {x y r0 r1 : Value} {T : TypeId} (h : Below ((w.alloc (.cells #[x, y] T)).alloc (.cells #[r0, r1] T)).heap.size ((w.alloc (.cells #[x, y] T)).alloc (.cells #[r0, r1] T)) w') : Box2 w w.heap.size x y w' /\ Box2 w (w.heap.size + 1) r0 r1 w' := by
 have e1 : (w.alloc (.cells #[x, y] T)).heap.size = w.heap.size + 1 := by simp
 have b2 : Box2 w (w.heap.size + 1) r0 r1 ((w.alloc (.cells #[x, y] T)).alloc (.cells #[r0, r1] T)) := by
   have := Box2.mk0 (w := w.alloc (.cells #[x, y] T)) (x := r0) (y := r1) (T := T)
   rw [e1] at this
   exact ⟨this.c0, this.c1, this.f0, this.f1, this.lt⟩
 have b1 : Box2 w w.heap.size x y (w.alloc (.cells #[x, y] T)) := Box2.mk0
 have s1 : Below (w.alloc (.cells #[x, y] T)).heap.size (w.alloc (.cells #[x, y] T)) ((w.alloc (.cells #[x, y] T)).alloc (.cells #[r0, r1] T)) := (Below.refl _ _).alloc (Nat.le_refl _) _
 exact ⟨(b1.later s1).later h, b2.later h⟩
end Go.Proofs.YtmnigckpejcaeaaGreatDoor
