/-
  A whole quad read at once: the law for a walk, for the head of a region that draws. By an AI agent.
-/
import Derived.Test.YtdegonmkikfghaaGreatDoorZQuad0
import Derived.Test.YtdegonmkikfghaaGreatDoorZStill
import Derived.Test.YtdegonmkikfghaaGreatDoorProg
import Derived.Deep.MidRow
import Derived.Test.YtdegonmkikfghaaGreatDoorZApp
import Derived.Laws.CopyRow
import Derived.Laws.OwnMore
import Derived.Maps.AppendAt
import Derived.Maps.Range
namespace Go.Proofs.YtdegonmkikfghaaGreatDoor
open Go.RowKit
set_option maxRecDepth 100000
abbrev qv (q : QuadL) : Value := .agg #[.int .i64 q.s.kind, .string (B q.s.text), .string (B q.s.type), .string (B q.s.lang), .int .i64 q.p.kind, .string (B q.p.text), .string (B q.p.type), .string (B q.p.lang), .int .i64 q.o.kind, .string (B q.o.text), .string (B q.o.type), .string (B q.o.lang), .int .i64 q.g.kind, .string (B q.g.text), .string (B q.g.type), .string (B q.g.lang)]
theorem wpList_load_quad {ops : Array Oper} {rest : List Oper} {op : Oper} {a : Act} {w : World} {Q : Exit -> Act -> World -> Prop} (hgd : op.guard = none) (x : Operand) (ho : op.op = .load 36 x)
   (b o : Nat) (hx : a.eval x = .pointer (some ⟨b, o, none⟩)) (q : QuadL) (hr : w.rangeAt b o (quadC q)) (h : wpList Tryz.prog ops Q rest (a.put op.dst (qv q)) w) : wpList Tryz.prog ops Q (op :: rest) a w :=
 wpList_load_mid hgd _ x ho b o hx (quadC q) _ hr Tryz.underlying36 rfl (by kernel_rfl) h
theorem still_load_quad {ops : Array Oper} {rest : List Oper} {op : Oper} {a : Act} {w : World} {Q : Act -> Prop} (hgd : op.guard = none) (x : Operand) (ho : op.op = .load 36 x)
   (b o : Nat) (hx : a.eval x = .pointer (some ⟨b, o, none⟩)) (q : QuadL) (hr : w.rangeAt b o (quadC q)) (h : wpStill Tryz.prog ops w Q rest (a.put op.dst (qv q))) : wpStill Tryz.prog ops w Q (op :: rest) a := by
 refine wpStill_step (fun K hK => ?_)
 have hw : Region.wanted op (yielded ops a.tmps) = true := by simp [Region.wanted, hgd]
 rw [if_pos hw]
 unfold Oper.still execOp
 have hl : (Instr.loadAt 36 (.pointer (some ⟨b, o, none⟩))).run Tryz.prog w = .ok (qv q) w := run_loadAt_mid w b o _ (quadC q) _ hr Tryz.underlying36 rfl (by kernel_rfl)
 simp only [ho, hx, Sem.run_bind, hl, Result.andThen_ok, Sem.run_pure]
 exact ⟨rfl, hK _ h⟩
end Go.Proofs.YtdegonmkikfghaaGreatDoor
namespace Go.Proofs.YtdegonmkikfghaaGreatDoor
open Go.RowKit
set_option maxRecDepth 100000
theorem oneQ (q : QuadL) : (quadC q).toArray.all (·.oneCell') = true := by simp [quadC, termC, Value.oneCell']
theorem wpList_store_quad {ops : Array Oper} {rest : List Oper} {op : Oper} {a : Act} {w : World} {Q : Exit -> Act -> World -> Prop} (hgd : op.guard = none) (p x : Operand) (ho : op.op = .store 36 p x)
   (g : Nat) (hp : a.eval p = .pointer (some ⟨g, 0, none⟩)) (q : QuadL) (hx : a.eval x = qv q) (T : TypeId) (old : Array Value) (hs : old.size = 16) (hg : w.heap[g]? = some (.cells old T (0, 0)))
   (h : wpList Tryz.prog ops Q rest (a.put op.dst undef) (w.setRow g (quadC q).toArray)) : wpList Tryz.prog ops Q (op :: rest) a w :=
 wpList_store_row hgd _ p x ho g hp T old (quadC q).toArray hx hg (by kernel_rfl) hs (oneQ q) h
theorem range_row {w : World} {g : Nat} {cs : List Value} {T : TypeId} {fr : Nat × Nat} (h : w.heap[g]? = some (.cells cs.toArray T fr)) : w.rangeAt g 0 cs := fun j v hj => by
 rw [Nat.zero_add, cell_of_row w g j _ T fr h]
 simpa using hj
end Go.Proofs.YtdegonmkikfghaaGreatDoor
namespace Go.Proofs.YtdegonmkikfghaaGreatDoor
open Go.RowKit
set_option maxRecDepth 100000
theorem run_build1 (x : QuadL) (w : World) : (Instr.buildSlice 22 1 #[(0, qv x)]).run Tryz.prog w = .ok (.slice (some ⟨w.heap.size, 0, none⟩) 1 1) (w.alloc (.cells (quadsC [x]).toArray 36)) := by kernel_rfl
end Go.Proofs.YtdegonmkikfghaaGreatDoor
namespace Go.Proofs.YtdegonmkikfghaaGreatDoor
open Go.RowKit
set_option maxRecDepth 100000
set_option maxHeartbeats 1000000 in
theorem eql_q (p q : QuadL) (w : World) : (binOp .eql 36 (qv p) (qv q)).run Tryz.prog w = .ok (.bool (decide (p = q))) w := by
 obtain ⟨⟨k1, a1, b1, c1⟩, ⟨k2, a2, b2, c2⟩, ⟨k3, a3, b3, c3⟩, ⟨k4, a4, b4, c4⟩⟩ := p
 obtain ⟨⟨l1, d1, e1, f1⟩, ⟨l2, d2, e2, f2⟩, ⟨l3, d3, e3, f3⟩, ⟨l4, d4, e4, f4⟩⟩ := q
 go_simp
 by_cases h : k1 = l1
 case neg => rw [if_neg h]; simp [h]
 subst h
 rw [if_pos rfl]
 by_cases h : a1 = d1
 case neg => rw [if_neg h]; simp [h]
 subst h
 rw [if_pos rfl]
 by_cases h : b1 = e1
 case neg => rw [if_neg h]; simp [h]
 subst h
 rw [if_pos rfl]
 by_cases h : c1 = f1
 case neg => rw [if_neg h]; simp [h]
 subst h
 rw [if_pos rfl]
 by_cases h : k2 = l2
 case neg => rw [if_neg h]; simp [h]
 subst h
 rw [if_pos rfl]
 by_cases h : a2 = d2
 case neg => rw [if_neg h]; simp [h]
 subst h
 rw [if_pos rfl]
 by_cases h : b2 = e2
 case neg => rw [if_neg h]; simp [h]
 subst h
 rw [if_pos rfl]
 by_cases h : c2 = f2
 case neg => rw [if_neg h]; simp [h]
 subst h
 rw [if_pos rfl]
 by_cases h : k3 = l3
 case neg => rw [if_neg h]; simp [h]
 subst h
 rw [if_pos rfl]
 by_cases h : a3 = d3
 case neg => rw [if_neg h]; simp [h]
 subst h
 rw [if_pos rfl]
 by_cases h : b3 = e3
 case neg => rw [if_neg h]; simp [h]
 subst h
 rw [if_pos rfl]
 by_cases h : c3 = f3
 case neg => rw [if_neg h]; simp [h]
 subst h
 rw [if_pos rfl]
 by_cases h : k4 = l4
 case neg => rw [if_neg h]; simp [h]
 subst h
 rw [if_pos rfl]
 by_cases h : a4 = d4
 case neg => rw [if_neg h]; simp [h]
 subst h
 rw [if_pos rfl]
 by_cases h : b4 = e4
 case neg => rw [if_neg h]; simp [h]
 subst h
 rw [if_pos rfl]
 by_cases h : c4 = f4
 case neg => rw [if_neg h]; simp [h]
 subst h
 rw [if_pos rfl]
 simp
end Go.Proofs.YtdegonmkikfghaaGreatDoor
namespace Go.Proofs.YtdegonmkikfghaaGreatDoor
open Go.RowKit
set_option maxRecDepth 100000
theorem oneCell_quads (l : List QuadL) : ∀ u ∈ quadsC l, u.oneCell' = true := fun u hu => by
 obtain ⟨q, _, hq⟩ := List.mem_flatMap.1 hu
 exact oneCell_quad q u hq
theorem QAt.src {w : World} {ad : Addr} {l : List QuadL} (h : QAt w (some ad) l) : ∀ j v, (quadsC l)[j]? = some v -> w.cell? (ad.add j) = some v := fun j v hj => by
 obtain ⟨hlt, rfl⟩ := List.getElem?_eq_some_iff.1 hj
 obtain ⟨b, o, he, hc⟩ := h j hlt
 cases he
 rw [Addr.add_mid]
 exact hc
end Go.Proofs.YtdegonmkikfghaaGreatDoor
namespace Go.Proofs.YtdegonmkikfghaaGreatDoor
open Go.RowKit
set_option maxRecDepth 100000
def markQ : QuadL := ⟨⟨-7, [109, 97, 114, 107], [], []⟩, noTerm, noTerm, noTerm⟩
def RoomyAt (w : World) (v : Value) (l : List QuadL) : Prop := ∃ g, v = .slice (some ⟨g, 0, none⟩) l.length (l.length + 2) /\ QAt w (some ⟨g, 0, none⟩) (l ++ [markQ, markQ])
theorem RoomyAt.below {w w' : World} {v : Value} {l : List QuadL} (h : RoomyAt w v l) (hb : Below w.heap.size w w') : RoomyAt w' v l := by
 obtain ⟨g, rfl, hq⟩ := h
 exact ⟨g, rfl, hq.below hb⟩
theorem QAt.front {w : World} {a : Option Addr} {l m : List QuadL} (h : QAt w a (l ++ m)) : QAt w a l := by
 have := At.take h (quadsC l).length
 unfold QAt
 rw [quadsC_append, List.take_left] at this
 exact this
theorem RoomyAt.view {w : World} {v : Value} {l : List QuadL} (h : RoomyAt w v l) : QView w v l := by
 obtain ⟨g, rfl, hq⟩ := h
 exact ⟨_, _, rfl, by omega, hq.front⟩
theorem RoomyAt.form {w : World} {v : Value} {l : List QuadL} (h : RoomyAt w v l) : ∃ g, v = .slice (some ⟨g, 0, none⟩) l.length (l.length + 2) := by
 obtain ⟨g, rfl, _⟩ := h
 exact ⟨g, rfl⟩
theorem ownsRow_grown {w w' : World} {row : Option Nat} {base : Nat} {e : TypeId} {s : Nat} {v : Value} {n : Nat} {xs : List Value} (h : w.ownsRow base e s v n xs) (hg : w.grownBy w' row) (hne : ∀ k, v.ownBlock = some k -> some k ≠ row) : w'.ownsRow base e s v n xs := by
 refine ⟨h.1, ?_⟩
 rcases h.2 with hn | ⟨g, cap, cur, rfl, h1, h2, rest⟩
 · exact .inl hn
 · refine .inr ⟨g, cap, cur, rfl, h1, ?_, rest⟩
   rw [hg.block g (Array.getElem?_eq_some_iff.1 h2).1 (hne g rfl)]
   exact h2
end Go.Proofs.YtdegonmkikfghaaGreatDoor
