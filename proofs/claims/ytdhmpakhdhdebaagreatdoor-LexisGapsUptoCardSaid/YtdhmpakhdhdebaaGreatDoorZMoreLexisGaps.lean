/-
  What this law wants beyond another claim's texts. By an AI agent.
-/
import Derived.Test.YtdhmpakhdhdebaaGreatDoorZKit
import Derived.WalkKit
import Derived.Lib.Hide
import Derived.Laws.IdiomStrings
import Derived.WalkSmall
import Derived.Laws.Strings2
import Derived.Laws.BytesArg
import Derived.Laws.Concat
import Derived.Deep.Draws
namespace Go.Proofs.YtdhmpakhdhdebaaGreatDoor
open Go.RowKit
set_option maxRecDepth 100000
theorem bytes_back {P : Program} {w : World} {base : Nat} {e : TypeId} {v : Value} {n : Nat} {l : List UInt8} (src dst : TypeId) (hs : P.underlying src = some (.slice e)) (he : P.underlying e = some (.int .u8)) (hd : P.underlying dst = some .string)
   (h : w.ownsRow base e 1 v n (l.map U8)) : (convert src dst v).run P w = .ok (.string (B l)) w := by
 obtain ⟨a, cap, rfl, _, hx, ha⟩ := ownsRow_at h
 rw [List.length_map] at hx
 by_cases h0 : l.length = 0
 · obtain rfl : l = [] := List.eq_nil_of_length_eq_zero h0
   rcases h.2 with ⟨h1, h2⟩ | ⟨g, cap', cur, hv, _⟩
   · cases h1
     exact run_convert_bytes_nil w src e hs he 0 0 dst hd
   · cases hv
     exact back_of_row w src dst e g cap n [] hx hs he hd (fun j hj => by simp at hj)
 · obtain ⟨b, o, rfl⟩ := ha.place (by simp; omega)
   subst hx
   refine run_convert_bytes_back w src dst e _ cap l hs he hd fun j hj => ?_
   rw [addO, ha.get (j := j) (by simpa using hj)]
   simp [U8]
end Go.Proofs.YtdhmpakhdhdebaaGreatDoor
