/-
  A lexer of the program beside one of the reference, step by step: contracts. By an AI agent.
-/
import Derived.Test.YtdhmpakhdhdebaaGreatDoorZAs
namespace Go.Proofs.YtdhmpakhdhdebaaGreatDoor
open Go.RowKit
set_option maxRecDepth 100000
def fltT : TokR -> Value
 | .inl _ => .agg #[.int .i64 0, .int .i64 0]
 | .inr q => .agg #[.int .i64 (q.1 : Int), .int .i64 q.2]
def ErrT (w : World) (v : Value) : TokR -> Prop
 | .inl _ => v = .nilIface
 | .inr q => ErrIs w v (.inr q)
theorem ErrT.below {w w' : World} {v : Value} {r : TokR} (h : ErrT w v r) (hb : Below w.heap.size w w') : ErrT w' v r := by
 rcases r with t | q
 ·exact h
 ·exact ErrIs.below (x := .inr q) h hb
theorem fault10_t (r : TokR) (v : Value) (w : World) (hE : ErrType w) (h : ErrT w v r) :
  Calls Tryz.prog 27 #[v] w fun e w' => e = .returned (fltT r) /\ Below w.heap.size w w' := by
 rcases r with t | ⟨p, n⟩
 ·exact fault10_l (.inl []) v w hE h
 ·exact fault10_l (.inr (p, n)) v w hE h
end Go.Proofs.YtdhmpakhdhdebaaGreatDoor
