/-
  A whole quad read at once: the law for a walk, for the head of a region that draws. By an AI agent.
-/
import Derived.Test.YtmnigckpejcaeaaGreatDoorZQuad0
import Derived.Test.YtmnigckpejcaeaaGreatDoorZStill
import Derived.Test.YtmnigckpejcaeaaGreatDoorProg
import Derived.Deep.MidRow
import Derived.Test.YtmnigckpejcaeaaGreatDoorZApp
import Derived.Laws.CopyRow
import Derived.Laws.OwnMore
import Derived.Maps.AppendAt
import Derived.Maps.Range
namespace Go.Proofs.YtmnigckpejcaeaaGreatDoor
open Go.RowKit
set_option maxRecDepth 100000
abbrev qv (q : QuadL) : Value := .agg #[.int .i64 q.s.kind, .string (B q.s.text), .string (B q.s.type), .string (B q.s.lang), .int .i64 q.p.kind, .string (B q.p.text), .string (B q.p.type), .string (B q.p.lang), .int .i64 q.o.kind, .string (B q.o.text), .string (B q.o.type), .string (B q.o.lang), .int .i64 q.g.kind, .string (B q.g.text), .string (B q.g.type), .string (B q.g.lang)]
theorem wpList_load_quad {ops : Array Oper} {rest : List Oper} {op : Oper} {a : Act} {w : World} {Q : Exit -> Act -> World -> Prop} (hgd : op.guard = none) (x : Operand) (ho : op.op = .load 56 x)
   (b o : Nat) (hx : a.eval x = .pointer (some ⟨b, o, none⟩)) (q : QuadL) (hr : w.rangeAt b o (quadC q)) (h : wpList Tryz.prog ops Q rest (a.put op.dst (qv q)) w) : wpList Tryz.prog ops Q (op :: rest) a w :=
 wpList_load_mid hgd _ x ho b o hx (quadC q) _ hr Tryz.underlying56 rfl (by kernel_rfl) h
theorem still_load_quad {ops : Array Oper} {rest : List Oper} {op : Oper} {a : Act} {w : World} {Q : Act -> Prop} (hgd : op.guard = none) (x : Operand) (ho : op.op = .load 56 x)
   (b o : Nat) (hx : a.eval x = .pointer (some ⟨b, o, none⟩)) (q : QuadL) (hr : w.rangeAt b o (quadC q)) (h : wpStill Tryz.prog ops w Q rest (a.put op.dst (qv q))) : wpStill Tryz.prog ops w Q (op :: rest) a := by
 refine wpStill_step (fun K hK => ?_)
 have hw : Region.wanted op (yielded ops a.tmps) = true := by simp [Region.wanted, hgd]
 rw [if_pos hw]
 unfold Oper.still execOp
 have hl : (Instr.loadAt 56 (.pointer (some ⟨b, o, none⟩))).run Tryz.prog w = .ok (qv q) w := run_loadAt_mid w b o _ (quadC q) _ hr Tryz.underlying56 rfl (by kernel_rfl)
 simp only [ho, hx, Sem.run_bind, hl, Result.andThen_ok, Sem.run_pure]
 exact ⟨rfl, hK _ h⟩
end Go.Proofs.YtmnigckpejcaeaaGreatDoor
namespace Go.Proofs.YtmnigckpejcaeaaGreatDoor
open Go.RowKit
set_option maxRecDepth 100000
theorem still_load_quadG {ops : Array Oper} {rest : List Oper} {op : Oper} {a : Act} {w : World} {Q : Act -> Prop} (x : Operand) (ho : op.op = .load 56 x) (hw : Region.wanted op (yielded ops a.tmps) = true)
   (b o : Nat) (hx : a.eval x = .pointer (some ⟨b, o, none⟩)) (q : QuadL) (hr : w.rangeAt b o (quadC q)) (h : wpStill Tryz.prog ops w Q rest (a.put op.dst (qv q))) : wpStill Tryz.prog ops w Q (op :: rest) a := by
 refine wpStill_step (fun K hK => ?_)
 rw [if_pos hw]
 unfold Oper.still execOp
 have hl : (Instr.loadAt 56 (.pointer (some ⟨b, o, none⟩))).run Tryz.prog w = .ok (qv q) w := run_loadAt_mid w b o _ (quadC q) _ hr Tryz.underlying56 rfl (by kernel_rfl)
 simp only [ho, hx, Sem.run_bind, hl, Result.andThen_ok, Sem.run_pure]
 exact ⟨rfl, hK _ h⟩
theorem oneQ (q : QuadL) : (quadC q).toArray.all (·.oneCell') = true := by simp [quadC, termC, Value.oneCell']
theorem wpList_store_quad {ops : Array Oper} {rest : List Oper} {op : Oper} {a : Act} {w : World} {Q : Exit -> Act -> World -> Prop} (hgd : op.guard = none) (p x : Operand) (ho : op.op = .store 56 p x)
   (g : Nat) (hp : a.eval p = .pointer (some ⟨g, 0, none⟩)) (q : QuadL) (hx : a.eval x = qv q) (T : TypeId) (old : Array Value) (hs : old.size = 16) (hg : w.heap[g]? = some (.cells old T (0, 0)))
   (h : wpList Tryz.prog ops Q rest (a.put op.dst undef) (w.setRow g (quadC q).toArray)) : wpList Tryz.prog ops Q (op :: rest) a w :=
 wpList_store_row hgd _ p x ho g hp T old (quadC q).toArray hx hg (by kernel_rfl) hs (oneQ q) h
theorem heap_3 (w : World) (a b c : Obj) : (((w.alloc a).alloc b).alloc c).heap[w.heap.size]? = some a /\ (((w.alloc a).alloc b).alloc c).heap[w.heap.size + 1]? = some b /\ (((w.alloc a).alloc b).alloc c).heap[w.heap.size + 1 + 1]? = some c := by
 have e1 : (w.alloc a).heap.size = w.heap.size + 1 := by simp
 have e2 : ((w.alloc a).alloc b).heap.size = w.heap.size + 1 + 1 := by simp
 refine ⟨?_, ?_, ?_⟩
 · rw [heap_alloc_old _ _ (by omega), heap_alloc_old _ _ (by omega)]; exact heap_alloc_new w a
 · rw [heap_alloc_old _ _ (by omega), <- e1]; exact heap_alloc_new _ b
 · rw [<- e2]; exact heap_alloc_new _ c
theorem range_row {w : World} {g : Nat} {cs : List Value} {T : TypeId} {fr : Nat × Nat} (h : w.heap[g]? = some (.cells cs.toArray T fr)) : w.rangeAt g 0 cs := fun j v hj => by
 rw [Nat.zero_add, cell_of_row w g j _ T fr h]
 simpa using hj
set_option maxHeartbeats 1000000 in
theorem three_rows (w : World) (x y z : QuadL) (T : TypeId) (a b c : Array Value) :
   (((((((w.alloc (.cells a T)).alloc (.cells b T)).alloc (.cells c T)).setRow w.heap.size (quadC x).toArray).setRow (w.heap.size + 1) (quadC y).toArray).setRow (w.heap.size + 1 + 1) (quadC z).toArray)).rangeAt w.heap.size 0 (quadC x) /\
   (((((((w.alloc (.cells a T)).alloc (.cells b T)).alloc (.cells c T)).setRow w.heap.size (quadC x).toArray).setRow (w.heap.size + 1) (quadC y).toArray).setRow (w.heap.size + 1 + 1) (quadC z).toArray)).rangeAt (w.heap.size + 1) 0 (quadC y) /\
   (((((((w.alloc (.cells a T)).alloc (.cells b T)).alloc (.cells c T)).setRow w.heap.size (quadC x).toArray).setRow (w.heap.size + 1) (quadC y).toArray).setRow (w.heap.size + 1 + 1) (quadC z).toArray)).rangeAt (w.heap.size + 1 + 1) 0 (quadC z) := by
 obtain ⟨h0, h1, h2⟩ := heap_3 w (.cells a T) (.cells b T) (.cells c T)
 refine ⟨range_row (T := T) (fr := (0, 0)) ?_, range_row (T := T) (fr := (0, 0)) ?_, range_row (T := T) (fr := (0, 0)) ?_⟩
 · rw [setRow_other _ _ _ _ (by omega), setRow_other _ _ _ _ (by omega)]
   exact setRow_heap _ w.heap.size a (quadC x).toArray T (0, 0) h0
 · rw [setRow_other _ _ _ _ (by omega)]
   refine setRow_heap _ (w.heap.size + 1) b (quadC y).toArray T (0, 0) ?_
   rw [setRow_other _ _ _ _ (by omega)]
   exact h1
 · refine setRow_heap _ (w.heap.size + 1 + 1) c (quadC z).toArray T (0, 0) ?_
   rw [setRow_other _ _ _ _ (by omega), setRow_other _ _ _ _ (by omega)]
   exact h2
end Go.Proofs.YtmnigckpejcaeaaGreatDoor
namespace Go.Proofs.YtmnigckpejcaeaaGreatDoor
open Go.RowKit
set_option maxRecDepth 100000
theorem run_build1 (x : QuadL) (w : World) : (Instr.buildSlice 22 1 #[(0, qv x)]).run Tryz.prog w = .ok (.slice (some ⟨w.heap.size, 0, none⟩) 1 1) (w.alloc (.cells (quadsC [x]).toArray 56)) := by kernel_rfl
theorem run_build2 (x y : QuadL) (w : World) : (Instr.buildSlice 22 2 #[(0, qv x), (1, qv y)]).run Tryz.prog w = .ok (.slice (some ⟨w.heap.size, 0, none⟩) 2 2) (w.alloc (.cells (quadsC [x, y]).toArray 56)) := by kernel_rfl
theorem wpList_build1 {ops : Array Oper} {rest : List Oper} {op : Oper} {a : Act} {w : World} {Q : Exit -> Act -> World -> Prop} (hgd : op.guard = none) (i : Operand) (ho : op.op = .buildSlice 22 1 #[(0, i)])
   (x : QuadL) (hx : a.eval i = qv x) (h : wpList Tryz.prog ops Q rest (a.put op.dst (.slice (some ⟨w.heap.size, 0, none⟩) 1 1)) (w.alloc (.cells (quadsC [x]).toArray 56))) : wpList Tryz.prog ops Q (op :: rest) a w :=
 wpList_plain hgd fun K hK => by
   unfold Oper.wp execOp
   have e : (#[((0 : Nat), i)]).map (fun (p : Nat × Operand) => (p.1, a.eval p.2)) = #[(0, qv x)] := by simp [hx]
   simp only [ho, e, Sem.run_bind, run_build1, Result.andThen_ok, Sem.run_pure]
   exact hK _ _ h
theorem wpList_build2 {ops : Array Oper} {rest : List Oper} {op : Oper} {a : Act} {w : World} {Q : Exit -> Act -> World -> Prop} (hgd : op.guard = none) (i j : Operand) (ho : op.op = .buildSlice 22 2 #[(0, i), (1, j)])
   (x y : QuadL) (hx : a.eval i = qv x) (hy : a.eval j = qv y) (h : wpList Tryz.prog ops Q rest (a.put op.dst (.slice (some ⟨w.heap.size, 0, none⟩) 2 2)) (w.alloc (.cells (quadsC [x, y]).toArray 56))) : wpList Tryz.prog ops Q (op :: rest) a w :=
 wpList_plain hgd fun K hK => by
   unfold Oper.wp execOp
   have e : (#[((0 : Nat), i), (1, j)]).map (fun (p : Nat × Operand) => (p.1, a.eval p.2)) = #[(0, qv x), (1, qv y)] := by simp [hx, hy]
   simp only [ho, e, Sem.run_bind, run_build2, Result.andThen_ok, Sem.run_pure]
   exact hK _ _ h
end Go.Proofs.YtmnigckpejcaeaaGreatDoor
namespace Go.Proofs.YtmnigckpejcaeaaGreatDoor
open Go.RowKit
set_option maxRecDepth 100000
set_option maxHeartbeats 1000000 in
theorem eql_q (p q : QuadL) (w : World) : (binOp .eql 56 (qv p) (qv q)).run Tryz.prog w = .ok (.bool (decide (p = q))) w := by
 obtain ⟨⟨k1, a1, b1, c1⟩, ⟨k2, a2, b2, c2⟩, ⟨k3, a3, b3, c3⟩, ⟨k4, a4, b4, c4⟩⟩ := p
 obtain ⟨⟨l1, d1, e1, f1⟩, ⟨l2, d2, e2, f2⟩, ⟨l3, d3, e3, f3⟩, ⟨l4, d4, e4, f4⟩⟩ := q
 go_simp
 by_cases h : k1 = l1
 case neg => rw [if_neg h]; simp [h]
 subst h
 rw [if_pos rfl]
 by_cases h : a1 = d1
 case neg => rw [if_neg h]; simp [h]
 subst h
 rw [if_pos rfl]
 by_cases h : b1 = e1
 case neg => rw [if_neg h]; simp [h]
 subst h
 rw [if_pos rfl]
 by_cases h : c1 = f1
 case neg => rw [if_neg h]; simp [h]
 subst h
 rw [if_pos rfl]
 by_cases h : k2 = l2
 case neg => rw [if_neg h]; simp [h]
 subst h
 rw [if_pos rfl]
 by_cases h : a2 = d2
 case neg => rw [if_neg h]; simp [h]
 subst h
 rw [if_pos rfl]
 by_cases h : b2 = e2
 case neg => rw [if_neg h]; simp [h]
 subst h
 rw [if_pos rfl]
 by_cases h : c2 = f2
 case neg => rw [if_neg h]; simp [h]
 subst h
 rw [if_pos rfl]
 by_cases h : k3 = l3
 case neg => rw [if_neg h]; simp [h]
 subst h
 rw [if_pos rfl]
 by_cases h : a3 = d3
 case neg => rw [if_neg h]; simp [h]
 subst h
 rw [if_pos rfl]
 by_cases h : b3 = e3
 case neg => rw [if_neg h]; simp [h]
 subst h
 rw [if_pos rfl]
 by_cases h : c3 = f3
 case neg => rw [if_neg h]; simp [h]
 subst h
 rw [if_pos rfl]
 by_cases h : k4 = l4
 case neg => rw [if_neg h]; simp [h]
 subst h
 rw [if_pos rfl]
 by_cases h : a4 = d4
 case neg => rw [if_neg h]; simp [h]
 subst h
 rw [if_pos rfl]
 by_cases h : b4 = e4
 case neg => rw [if_neg h]; simp [h]
 subst h
 rw [if_pos rfl]
 by_cases h : c4 = f4
 case neg => rw [if_neg h]; simp [h]
 subst h
 rw [if_pos rfl]
 simp
end Go.Proofs.YtmnigckpejcaeaaGreatDoor
namespace Go.Proofs.YtmnigckpejcaeaaGreatDoor
open Go.RowKit
set_option maxRecDepth 100000
theorem oneCell_quads (l : List QuadL) : ∀ u ∈ quadsC l, u.oneCell' = true := fun u hu => by
 obtain ⟨q, _, hq⟩ := List.mem_flatMap.1 hu
 exact oneCell_quad q u hq
theorem QAt.src {w : World} {ad : Addr} {l : List QuadL} (h : QAt w (some ad) l) : ∀ j v, (quadsC l)[j]? = some v -> w.cell? (ad.add j) = some v := fun j v hj => by
 obtain ⟨hlt, rfl⟩ := List.getElem?_eq_some_iff.1 hj
 obtain ⟨b, o, he, hc⟩ := h j hlt
 cases he
 rw [Addr.add_mid]
 exact hc
end Go.Proofs.YtmnigckpejcaeaaGreatDoor
namespace Go.Proofs.YtmnigckpejcaeaaGreatDoor
open Go.RowKit
set_option maxRecDepth 100000
theorem ownsRow_grown {w w' : World} {row : Option Nat} {base : Nat} {e : TypeId} {s : Nat} {v : Value} {n : Nat} {xs : List Value} (h : w.ownsRow base e s v n xs) (hg : w.grownBy w' row) (hne : ∀ k, v.ownBlock = some k -> some k ≠ row) : w'.ownsRow base e s v n xs := by
 refine ⟨h.1, ?_⟩
 rcases h.2 with hn | ⟨g, cap, cur, rfl, h1, h2, rest⟩
 · exact .inl hn
 · refine .inr ⟨g, cap, cur, rfl, h1, ?_, rest⟩
   rw [hg.block g (Array.getElem?_eq_some_iff.1 h2).1 (hne g rfl)]
   exact h2
end Go.Proofs.YtmnigckpejcaeaaGreatDoor
