/-
  A whole quad read at once: the law for a walk, for the head of a region that draws. By an AI agent.
-/
import Derived.Test.YtdegonmkikfghaaGreatDoorZQuad0
import Derived.Test.YtdegonmkikfghaaGreatDoorZStill
import Derived.Test.YtdegonmkikfghaaGreatDoorProg
import Derived.Deep.MidRow
namespace Go.Proofs.YtdegonmkikfghaaGreatDoor
open Go.RowKit
set_option maxRecDepth 100000
abbrev qv (q : QuadL) : Value := .agg #[.int .i64 q.s.kind, .string (B q.s.text), .string (B q.s.type), .string (B q.s.lang), .int .i64 q.p.kind, .string (B q.p.text), .string (B q.p.type), .string (B q.p.lang), .int .i64 q.o.kind, .string (B q.o.text), .string (B q.o.type), .string (B q.o.lang), .int .i64 q.g.kind, .string (B q.g.text), .string (B q.g.type), .string (B q.g.lang)]
theorem wpList_load_quad {ops : Array Oper} {rest : List Oper} {op : Oper} {a : Act} {w : World} {Q : Exit -> Act -> World -> Prop} (hgd : op.guard = none) (x : Operand) (ho : op.op = .load 36 x)
   (b o : Nat) (hx : a.eval x = .pointer (some ⟨b, o, none⟩)) (q : QuadL) (hr : w.rangeAt b o (quadC q)) (h : wpList Tryz.prog ops Q rest (a.put op.dst (qv q)) w) : wpList Tryz.prog ops Q (op :: rest) a w :=
 wpList_load_mid hgd _ x ho b o hx (quadC q) _ hr Tryz.underlying36 rfl (by kernel_rfl) h
end Go.Proofs.YtdegonmkikfghaaGreatDoor
namespace Go.Proofs.YtdegonmkikfghaaGreatDoor
open Go.RowKit
set_option maxRecDepth 100000
theorem oneQ (q : QuadL) : (quadC q).toArray.all (·.oneCell') = true := by simp [quadC, termC, Value.oneCell']
theorem wpList_store_quad {ops : Array Oper} {rest : List Oper} {op : Oper} {a : Act} {w : World} {Q : Exit -> Act -> World -> Prop} (hgd : op.guard = none) (p x : Operand) (ho : op.op = .store 36 p x)
   (g : Nat) (hp : a.eval p = .pointer (some ⟨g, 0, none⟩)) (q : QuadL) (hx : a.eval x = qv q) (T : TypeId) (old : Array Value) (hs : old.size = 16) (hg : w.heap[g]? = some (.cells old T (0, 0)))
   (h : wpList Tryz.prog ops Q rest (a.put op.dst undef) (w.setRow g (quadC q).toArray)) : wpList Tryz.prog ops Q (op :: rest) a w :=
 wpList_store_row hgd _ p x ho g hp T old (quadC q).toArray hx hg (by kernel_rfl) hs (oneQ q) h
theorem range_row {w : World} {g : Nat} {cs : List Value} {T : TypeId} {fr : Nat × Nat} (h : w.heap[g]? = some (.cells cs.toArray T fr)) : w.rangeAt g 0 cs := fun j v hj => by
 rw [Nat.zero_add, cell_of_row w g j _ T fr h]
 simpa using hj
end Go.Proofs.YtdegonmkikfghaaGreatDoor
namespace Go.Proofs.YtdegonmkikfghaaGreatDoor
open Go.RowKit
set_option maxRecDepth 100000
set_option maxHeartbeats 1000000 in
theorem eql_q (p q : QuadL) (w : World) : (binOp .eql 36 (qv p) (qv q)).run Tryz.prog w = .ok (.bool (decide (p = q))) w := by
 obtain ⟨⟨k1, a1, b1, c1⟩, ⟨k2, a2, b2, c2⟩, ⟨k3, a3, b3, c3⟩, ⟨k4, a4, b4, c4⟩⟩ := p
 obtain ⟨⟨l1, d1, e1, f1⟩, ⟨l2, d2, e2, f2⟩, ⟨l3, d3, e3, f3⟩, ⟨l4, d4, e4, f4⟩⟩ := q
 go_simp
 by_cases h : k1 = l1
 case neg => rw [if_neg h]; simp [h]
 subst h
 rw [if_pos rfl]
 by_cases h : a1 = d1
 case neg => rw [if_neg h]; simp [h]
 subst h
 rw [if_pos rfl]
 by_cases h : b1 = e1
 case neg => rw [if_neg h]; simp [h]
 subst h
 rw [if_pos rfl]
 by_cases h : c1 = f1
 case neg => rw [if_neg h]; simp [h]
 subst h
 rw [if_pos rfl]
 by_cases h : k2 = l2
 case neg => rw [if_neg h]; simp [h]
 subst h
 rw [if_pos rfl]
 by_cases h : a2 = d2
 case neg => rw [if_neg h]; simp [h]
 subst h
 rw [if_pos rfl]
 by_cases h : b2 = e2
 case neg => rw [if_neg h]; simp [h]
 subst h
 rw [if_pos rfl]
 by_cases h : c2 = f2
 case neg => rw [if_neg h]; simp [h]
 subst h
 rw [if_pos rfl]
 by_cases h : k3 = l3
 case neg => rw [if_neg h]; simp [h]
 subst h
 rw [if_pos rfl]
 by_cases h : a3 = d3
 case neg => rw [if_neg h]; simp [h]
 subst h
 rw [if_pos rfl]
 by_cases h : b3 = e3
 case neg => rw [if_neg h]; simp [h]
 subst h
 rw [if_pos rfl]
 by_cases h : c3 = f3
 case neg => rw [if_neg h]; simp [h]
 subst h
 rw [if_pos rfl]
 by_cases h : k4 = l4
 case neg => rw [if_neg h]; simp [h]
 subst h
 rw [if_pos rfl]
 by_cases h : a4 = d4
 case neg => rw [if_neg h]; simp [h]
 subst h
 rw [if_pos rfl]
 by_cases h : b4 = e4
 case neg => rw [if_neg h]; simp [h]
 subst h
 rw [if_pos rfl]
 by_cases h : c4 = f4
 case neg => rw [if_neg h]; simp [h]
 subst h
 rw [if_pos rfl]
 simp
end Go.Proofs.YtdegonmkikfghaaGreatDoor
