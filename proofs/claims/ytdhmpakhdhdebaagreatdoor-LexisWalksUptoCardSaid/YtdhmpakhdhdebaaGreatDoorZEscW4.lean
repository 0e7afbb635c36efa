/-
  utf.Escape of a text that is well formed: a contract. By an AI agent.
-/
import Derived.Test.YtdhmpakhdhdebaaGreatDoorZEscW
namespace Go.Proofs.YtdhmpakhdhdebaaGreatDoor
open Go.RowKit
set_option maxRecDepth 100000
theorem BuildsB.heapsame {u u' : World} {B_ b : Nat} {l : List UInt8} (h : BuildsB u B_ b l) (hk : ∀ k, k < u.heap.size -> u'.heap[k]? = u.heap[k]?) : BuildsB u' B_ b l := by
 have key : ∀ p, Lib.BuilderAt 117 5 B_ b p (l.map U8) u -> Lib.BuilderAt 117 5 B_ b p (l.map U8) u' := by
  rintro p ⟨hB, v, hb, hown, hne⟩
  refine ⟨hB, v, (hk b (Array.getElem?_eq_some_iff.1 hb).1).trans hb, ⟨hown.1, ?_⟩, hne⟩
  rcases hown.2 with h2 | ⟨g, cap, cur, h1, h2, h3, h4⟩
  ·exact .inl h2
  ·exact .inr ⟨g, cap, cur, h1, h2, (hk g (Array.getElem?_eq_some_iff.1 h3).1).trans h3, h4⟩
 exact h.elim (fun x => .inl (key _ x)) (fun x => .inr (key _ x))
theorem BuildsB.below {u u' : World} {B_ b : Nat} {l : List UInt8} (h : BuildsB u B_ b l) (hb : Below u.heap.size u u') : BuildsB u' B_ b l := h.heapsame fun k hk => hb.block k hk
end Go.Proofs.YtdhmpakhdhdebaaGreatDoor
