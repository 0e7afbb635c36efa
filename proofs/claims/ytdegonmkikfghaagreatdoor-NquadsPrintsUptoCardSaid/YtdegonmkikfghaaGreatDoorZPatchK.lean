/-
  What patches' walks want: small laws on rows of quads, boxes of two cells. By an AI agent.
-/
import Derived.Test.YtdegonmkikfghaaGreatDoorZApp
import Derived.Test.YtdegonmkikfghaaGreatDoorZCmp
import Derived.IntWalk
import Derived.Test.YtdegonmkikfghaaGreatDoorZTerm0
import Derived.Test.YtdegonmkikfghaaGreatDoorZStill
import Derived.Test.YtdegonmkikfghaaGreatDoorZValid
import Derived.Test.YtdegonmkikfghaaGreatDoorZKeep
namespace Go.Proofs.YtdegonmkikfghaaGreatDoor
open Go.RowKit
set_option maxRecDepth 100000

/-- a list of quads that is not great, whose texts are short -/
def Neat (l : List QuadL) : Prop := l.length ≤ 524288 ∧ ∀ q ∈ l, Short q
theorem Neat.nil : Neat [] := ⟨by simp, by simp⟩
/-- a cell elsewhere is written -/
theorem ownsRow_set {w : World} {base : Nat} {e : TypeId} {s : Nat} {v : Value} {n : Nat} {xs : List Value} (h : w.ownsRow base e s v n xs) (p : Addr) (x : Value) (hp : v.ownBlock ≠ some p.block) : (w.setCell p x).ownsRow base e s v n xs := by
  refine ⟨h.1, ?_⟩
  rcases h.2 with hn | ⟨g, cap, cur, rfl, h1, h2, rest⟩
  · exact .inl hn
  · refine .inr ⟨g, cap, cur, rfl, h1, ?_, rest⟩
    rw [heap_setCell_other w p g x (fun e => hp (by rw [← e]; simp [Value.ownBlock]))]
    exact h2
theorem QOwn.set {w : World} {base : Nat} {v : Value} {l : List QuadL} (h : QOwn base v l w) (p : Addr) (x : Value) (hp : p.block < base) : QOwn base v l (w.setCell p x) :=
  ownsRow_set h p x (fun e => by have := own_base h _ e; omega)
/-- two values in a block of their own, later -/
structure Box2 (w : World) (g : Nat) (x y : Value) (w' : World) : Prop where
  c0 : w'.cell? ⟨g, 0, none⟩ = some x
  c1 : w'.cell? ⟨g, 1, none⟩ = some y
  f0 : w'.frozen? ⟨g, 0, none⟩ = false
  f1 : w'.frozen? ⟨g, 1, none⟩ = false
  lt : g < w'.heap.size
theorem Box2.mk0 {w : World} {x y : Value} {T : TypeId} : Box2 w w.heap.size x y (w.alloc (.cells #[x, y] T)) :=
  ⟨by rw [World.cell?_alloc_new]; rfl, by rw [World.cell?_alloc_new]; rfl, by rw [World.frozen?_alloc_new], by rw [World.frozen?_alloc_new], by simp⟩
theorem Box2.later {w w1 w2 : World} {g : Nat} {x y : Value} (h : Box2 w g x y w1) (hb : Below w1.heap.size w1 w2) : Box2 w g x y w2 :=
  ⟨(hb.cell (p := ⟨g, 0, none⟩) h.lt).trans h.c0, (hb.cell (p := ⟨g, 1, none⟩) h.lt).trans h.c1, (hb.frozen (p := ⟨g, 0, none⟩) h.lt).trans h.f0, (hb.frozen (p := ⟨g, 1, none⟩) h.lt).trans h.f1, Nat.lt_of_lt_of_le h.lt hb.size⟩
end Go.Proofs.YtdegonmkikfghaaGreatDoor
