/-
  A whole quad read at once: the law for a walk, for the head of a region that draws. By an AI agent.
-/
import Derived.Test.YtdegonmkikfghaaGreatDoorZQuad0
import Derived.Test.YtdegonmkikfghaaGreatDoorZStill
import Derived.Test.YtdegonmkikfghaaGreatDoorProg
import Derived.Deep.MidRow
namespace Go.Proofs.YtdegonmkikfghaaGreatDoor
open Go.RowKit
set_option maxRecDepth 100000
/-- a quad as one value, its cells one by one -/
abbrev qv (q : QuadL) : Value := .agg #[.int .i64 q.s.kind, .string (B q.s.text), .string (B q.s.type), .string (B q.s.lang), .int .i64 q.p.kind, .string (B q.p.text), .string (B q.p.type), .string (B q.p.lang), .int .i64 q.o.kind, .string (B q.o.text), .string (B q.o.type), .string (B q.o.lang), .int .i64 q.g.kind, .string (B q.g.text), .string (B q.g.type), .string (B q.g.lang)]
end Go.Proofs.YtdegonmkikfghaaGreatDoor

/-
  A whole quad read under a guard, stored whole: laws. By an AI agent.
-/
namespace Go.Proofs.YtdegonmkikfghaaGreatDoor
open Go.RowKit
set_option maxRecDepth 100000
theorem still_load_quadG {ops : Array Oper} {rest : List Oper} {op : Oper} {a : Act} {w : World} {Q : Act → Prop} (x : Operand) (ho : op.op = .load 36 x) (hw : Region.wanted op (yielded ops a.tmps) = true)
    (b o : Nat) (hx : a.eval x = .pointer (some ⟨b, o, none⟩)) (q : QuadL) (hr : w.rangeAt b o (quadC q)) (h : wpStill Tryz.prog ops w Q rest (a.put op.dst (qv q))) : wpStill Tryz.prog ops w Q (op :: rest) a := by
  refine wpStill_step (fun K hK => ?_)
  rw [if_pos hw]
  unfold Oper.still execOp
  have hl : (Instr.loadAt 36 (.pointer (some ⟨b, o, none⟩))).run Tryz.prog w = .ok (qv q) w := run_loadAt_mid w b o _ (quadC q) _ hr Tryz.underlying36 rfl (by kernel_rfl)
  simp only [ho, hx, Sem.run_bind, hl, Result.andThen_ok, Sem.run_pure]
  exact ⟨rfl, hK _ h⟩
theorem range_row {w : World} {g : Nat} {cs : List Value} {T : TypeId} {fr : Nat × Nat} (h : w.heap[g]? = some (.cells cs.toArray T fr)) : w.rangeAt g 0 cs := fun j v hj => by
  rw [Nat.zero_add, cell_of_row w g j _ T fr h]
  simpa using hj
end Go.Proofs.YtdegonmkikfghaaGreatDoor

/-
  A slice built out of whole quads: laws. By an AI agent.
-/
namespace Go.Proofs.YtdegonmkikfghaaGreatDoor
open Go.RowKit
set_option maxRecDepth 100000
theorem run_build2 (x y : QuadL) (w : World) : (Instr.buildSlice 22 2 #[(0, qv x), (1, qv y)]).run Tryz.prog w = .ok (.slice (some ⟨w.heap.size, 0, none⟩) 2 2) (w.alloc (.cells (quadsC [x, y]).toArray 36)) := by kernel_rfl
theorem wpList_build2 {ops : Array Oper} {rest : List Oper} {op : Oper} {a : Act} {w : World} {Q : Exit → Act → World → Prop} (hgd : op.guard = none) (i j : Operand) (ho : op.op = .buildSlice 22 2 #[(0, i), (1, j)])
    (x y : QuadL) (hx : a.eval i = qv x) (hy : a.eval j = qv y) (h : wpList Tryz.prog ops Q rest (a.put op.dst (.slice (some ⟨w.heap.size, 0, none⟩) 2 2)) (w.alloc (.cells (quadsC [x, y]).toArray 36))) : wpList Tryz.prog ops Q (op :: rest) a w :=
  wpList_plain hgd fun K hK => by
    unfold Oper.wp execOp
    have e : (#[((0 : Nat), i), (1, j)]).map (fun (p : Nat × Operand) => (p.1, a.eval p.2)) = #[(0, qv x), (1, qv y)] := by simp [hx, hy]
    simp only [ho, e, Sem.run_bind, run_build2, Result.andThen_ok, Sem.run_pure]
    exact hK _ _ h
end Go.Proofs.YtdegonmkikfghaaGreatDoor

/-
  Quads compared: what == answers; a slice of one quad built: laws. By an AI agent.
-/
namespace Go.Proofs.YtdegonmkikfghaaGreatDoor
open Go.RowKit
set_option maxRecDepth 100000
set_option maxHeartbeats 1000000 in
theorem eql_q (p q : QuadL) (w : World) : (binOp .eql 36 (qv p) (qv q)).run Tryz.prog w = .ok (.bool (decide (p = q))) w := by
  obtain ⟨⟨k1, a1, b1, c1⟩, ⟨k2, a2, b2, c2⟩, ⟨k3, a3, b3, c3⟩, ⟨k4, a4, b4, c4⟩⟩ := p
  obtain ⟨⟨l1, d1, e1, f1⟩, ⟨l2, d2, e2, f2⟩, ⟨l3, d3, e3, f3⟩, ⟨l4, d4, e4, f4⟩⟩ := q
  go_simp
  by_cases h : k1 = l1
  case neg => rw [if_neg h]; simp [h]
  subst h
  rw [if_pos rfl]
  by_cases h : a1 = d1
  case neg => rw [if_neg h]; simp [h]
  subst h
  rw [if_pos rfl]
  by_cases h : b1 = e1
  case neg => rw [if_neg h]; simp [h]
  subst h
  rw [if_pos rfl]
  by_cases h : c1 = f1
  case neg => rw [if_neg h]; simp [h]
  subst h
  rw [if_pos rfl]
  by_cases h : k2 = l2
  case neg => rw [if_neg h]; simp [h]
  subst h
  rw [if_pos rfl]
  by_cases h : a2 = d2
  case neg => rw [if_neg h]; simp [h]
  subst h
  rw [if_pos rfl]
  by_cases h : b2 = e2
  case neg => rw [if_neg h]; simp [h]
  subst h
  rw [if_pos rfl]
  by_cases h : c2 = f2
  case neg => rw [if_neg h]; simp [h]
  subst h
  rw [if_pos rfl]
  by_cases h : k3 = l3
  case neg => rw [if_neg h]; simp [h]
  subst h
  rw [if_pos rfl]
  by_cases h : a3 = d3
  case neg => rw [if_neg h]; simp [h]
  subst h
  rw [if_pos rfl]
  by_cases h : b3 = e3
  case neg => rw [if_neg h]; simp [h]
  subst h
  rw [if_pos rfl]
  by_cases h : c3 = f3
  case neg => rw [if_neg h]; simp [h]
  subst h
  rw [if_pos rfl]
  by_cases h : k4 = l4
  case neg => rw [if_neg h]; simp [h]
  subst h
  rw [if_pos rfl]
  by_cases h : a4 = d4
  case neg => rw [if_neg h]; simp [h]
  subst h
  rw [if_pos rfl]
  by_cases h : b4 = e4
  case neg => rw [if_neg h]; simp [h]
  subst h
  rw [if_pos rfl]
  by_cases h : c4 = f4
  case neg => rw [if_neg h]; simp [h]
  subst h
  rw [if_pos rfl]
  simp
end Go.Proofs.YtdegonmkikfghaaGreatDoor
