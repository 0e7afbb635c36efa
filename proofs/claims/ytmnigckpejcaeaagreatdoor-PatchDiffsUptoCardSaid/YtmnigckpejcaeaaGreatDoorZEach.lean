/-
  patch.Each and the function that it hands out: the contract of an iterator. By an AI agent.
-/
import Derived.RangeFuncNested
import Derived.RangeFuncBound
import Derived.RangeFuncCalls
import Derived.RangeFuncLeaves
import Derived.Shelf.Abstract
import Derived.Shelf.RegionOpen
import Derived.OwnWalkIn
import Derived.TacticsInMore
import Derived.LoopNIn
import Derived.LoopIn
import Derived.Test.YtmnigckpejcaeaaGreatDoorZApp
import Derived.Test.YtmnigckpejcaeaaGreatDoorZPatch0
namespace Go.Proofs.YtmnigckpejcaeaaGreatDoor
open Go.RowKit Go.Shelf
set_option maxRecDepth 100000
attribute [local go_sem] Oper.semAt_some
abbrev qvE (q : QuadL) : Value := .agg #[.int .i64 q.s.kind, .string (B q.s.text), .string (B q.s.type), .string (B q.s.lang), .int .i64 q.p.kind, .string (B q.p.text), .string (B q.p.type), .string (B q.p.lang), .int .i64 q.o.kind, .string (B q.o.text), .string (B q.o.type), .string (B q.o.lang), .int .i64 q.g.kind, .string (B q.g.text), .string (B q.g.type), .string (B q.g.lang)]
abbrev encW (x : Bool × QuadL) : Array Value := #[.bool x.1, qvE x.2]
def walkL (p : PatchL) : List (Bool × QuadL) := p.minus.map (fun q => (false, q)) ++ p.plus.map (fun q => (true, q))
theorem walkL_len (p : PatchL) : (walkL p).length = p.minus.length + p.plus.length := by simp [walkL]
theorem walk_step0 (p : PatchL) (k : Nat) (hk : k < p.minus.length) : (walkL p).take (0 + (k + 1)) = (walkL p).take (0 + k) ++ [(false, p.minus[k])] := by
 have hlen := walkL_len p
 rw [Nat.zero_add, Nat.zero_add, List.take_succ_eq_append_getElem (by omega)]
 congr 2
 simp [walkL, List.getElem_append_left, hk]
theorem walk_step1 (p : PatchL) (k : Nat) (hk : k < p.plus.length) : (walkL p).take (p.minus.length + (k + 1)) = (walkL p).take (p.minus.length + k) ++ [(true, p.plus[k])] := by
 have hlen := walkL_len p
 rw [<- Nat.add_assoc, List.take_succ_eq_append_getElem (by omega)]
 congr 2
 simp [walkL, List.getElem_append_right]
def offE (p : PatchL) (i : Nat) : Nat := if i = 0 then 0 else if i = 1 then p.minus.length else p.minus.length + p.plus.length
set_option maxHeartbeats 1000000 in
theorem each_in (F : Fence) (n : Nat) (h5 : F.fn 23) (hro : F.round = none) (mv pv : Value) (w : World) :
   CallsIn F n Tryz.prog 23 #[.agg #[mv, pv]] w fun e w' => e = .returned (.func (.func 43) #[] #[.pointer (some ⟨w.heap.size, 0, none⟩)]) /\ w' = w.alloc (.cells #[mv, pv] 24) := by
 refine callsIn_of_wp Tryz.func23 rfl h5 ?_ hro
 simp only [Tryz.ntmps23, List.size_toArray, List.length_cons, List.length_nil, Nat.reduceAdd, Nat.reduceSub, Array.replicate_succ, Array.replicate_zero, List.push_toArray, List.append_toArray, List.nil_append, List.cons_append]
 gi_wp2
 go_ret
 exact ⟨rfl, rfl⟩
end Go.Proofs.YtmnigckpejcaeaaGreatDoor
