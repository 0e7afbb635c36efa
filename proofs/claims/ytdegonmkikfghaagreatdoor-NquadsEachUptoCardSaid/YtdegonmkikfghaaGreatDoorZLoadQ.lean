/-
  A whole quad read at once: the law for a walk, for the head of a region that draws. By an AI agent.
-/
import Derived.Test.YtdegonmkikfghaaGreatDoorZStill
import Derived.Test.YtdegonmkikfghaaGreatDoorZApp
import Derived.Maps.Range
namespace Go.Proofs.YtdegonmkikfghaaGreatDoor
open Go.RowKit
set_option maxRecDepth 100000
abbrev qv (q : QuadL) : Value := .agg #[.int .i64 q.s.kind, .string (B q.s.text), .string (B q.s.type), .string (B q.s.lang), .int .i64 q.p.kind, .string (B q.p.text), .string (B q.p.type), .string (B q.p.lang), .int .i64 q.o.kind, .string (B q.o.text), .string (B q.o.type), .string (B q.o.lang), .int .i64 q.g.kind, .string (B q.g.text), .string (B q.g.type), .string (B q.g.lang)]
theorem wpList_load_quad {ops : Array Oper} {rest : List Oper} {op : Oper} {a : Act} {w : World} {Q : Exit -> Act -> World -> Prop} (hgd : op.guard = none) (x : Operand) (ho : op.op = .load 36 x)
  (b o : Nat) (hx : a.eval x = .pointer (some ⟨b, o, none⟩)) (q : QuadL) (hr : w.rangeAt b o (quadC q)) (h : wpList Tryz.prog ops Q rest (a.put op.dst (qv q)) w) : wpList Tryz.prog ops Q (op :: rest) a w :=
 wpList_load_mid hgd _ x ho b o hx (quadC q) _ hr Tryz.underlying36 rfl (by kernel_rfl) h
end Go.Proofs.YtdegonmkikfghaaGreatDoor
namespace Go.Proofs.YtdegonmkikfghaaGreatDoor
open Go.RowKit
set_option maxRecDepth 100000
theorem still_load_quadG {ops : Array Oper} {rest : List Oper} {op : Oper} {a : Act} {w : World} {Q : Act -> Prop} (x : Operand) (ho : op.op = .load 36 x) (hw : Region.wanted op (yielded ops a.tmps) = true)
  (b o : Nat) (hx : a.eval x = .pointer (some ⟨b, o, none⟩)) (q : QuadL) (hr : w.rangeAt b o (quadC q)) (h : wpStill Tryz.prog ops w Q rest (a.put op.dst (qv q))) : wpStill Tryz.prog ops w Q (op :: rest) a := by
 refine wpStill_step (fun K hK => ?_)
 rw [if_pos hw]
 unfold Oper.still execOp
 have hl : (Instr.loadAt 36 (.pointer (some ⟨b, o, none⟩))).run Tryz.prog w = .ok (qv q) w := run_loadAt_mid w b o _ (quadC q) _ hr Tryz.underlying36 rfl (by kernel_rfl)
 simp only [ho, hx, Sem.run_bind, hl, Result.andThen_ok, Sem.run_pure]
 exact ⟨rfl, hK _ h⟩
theorem oneQ (q : QuadL) : (quadC q).toArray.all (·.oneCell') = true := by simp [quadC, termC, Value.oneCell']
theorem wpList_store_quad {ops : Array Oper} {rest : List Oper} {op : Oper} {a : Act} {w : World} {Q : Exit -> Act -> World -> Prop} (hgd : op.guard = none) (p x : Operand) (ho : op.op = .store 36 p x)
  (g : Nat) (hp : a.eval p = .pointer (some ⟨g, 0, none⟩)) (q : QuadL) (hx : a.eval x = qv q) (T : TypeId) (old : Array Value) (hs : old.size = 16) (hg : w.heap[g]? = some (.cells old T (0, 0)))
  (h : wpList Tryz.prog ops Q rest (a.put op.dst undef) (w.setRow g (quadC q).toArray)) : wpList Tryz.prog ops Q (op :: rest) a w :=
 wpList_store_row hgd _ p x ho g hp T old (quadC q).toArray hx hg (by kernel_rfl) hs (oneQ q) h
theorem range_row {w : World} {g : Nat} {cs : List Value} {T : TypeId} {fr : Nat × Nat} (h : w.heap[g]? = some (.cells cs.toArray T fr)) : w.rangeAt g 0 cs := fun j v hj => by
 rw [Nat.zero_add, cell_of_row w g j _ T fr h]
 simpa using hj
end Go.Proofs.YtdegonmkikfghaaGreatDoor
namespace Go.Proofs.YtdegonmkikfghaaGreatDoor
open Go.RowKit
set_option maxRecDepth 100000
theorem run_build1 (x : QuadL) (w : World) : (Instr.buildSlice 22 1 #[(0, qv x)]).run Tryz.prog w = .ok (.slice (some ⟨w.heap.size, 0, none⟩) 1 1) (w.alloc (.cells (quadsC [x]).toArray 36)) := by kernel_rfl
end Go.Proofs.YtdegonmkikfghaaGreatDoor
namespace Go.Proofs.YtdegonmkikfghaaGreatDoor
open Go.RowKit
set_option maxRecDepth 100000
set_option maxHeartbeats 1000000 in
theorem eql_q (p q : QuadL) (w : World) : (binOp .eql 36 (qv p) (qv q)).run Tryz.prog w = .ok (.bool (decide (p = q))) w := by
 obtain ⟨⟨k1, a1, b1, c1⟩, ⟨k2, a2, b2, c2⟩, ⟨k3, a3, b3, c3⟩, ⟨k4, a4, b4, c4⟩⟩ := p
 obtain ⟨⟨l1, d1, e1, f1⟩, ⟨l2, d2, e2, f2⟩, ⟨l3, d3, e3, f3⟩, ⟨l4, d4, e4, f4⟩⟩ := q
 go_simp
 by_cases h : k1 = l1
 case neg => rw [if_neg h]; simp [h]
 subst h
 rw [if_pos rfl]
 by_cases h : a1 = d1
 case neg => rw [if_neg h]; simp [h]
 subst h
 rw [if_pos rfl]
 by_cases h : b1 = e1
 case neg => rw [if_neg h]; simp [h]
 subst h
 rw [if_pos rfl]
 by_cases h : c1 = f1
 case neg => rw [if_neg h]; simp [h]
 subst h
 rw [if_pos rfl]
 by_cases h : k2 = l2
 case neg => rw [if_neg h]; simp [h]
 subst h
 rw [if_pos rfl]
 by_cases h : a2 = d2
 case neg => rw [if_neg h]; simp [h]
 subst h
 rw [if_pos rfl]
 by_cases h : b2 = e2
 case neg => rw [if_neg h]; simp [h]
 subst h
 rw [if_pos rfl]
 by_cases h : c2 = f2
 case neg => rw [if_neg h]; simp [h]
 subst h
 rw [if_pos rfl]
 by_cases h : k3 = l3
 case neg => rw [if_neg h]; simp [h]
 subst h
 rw [if_pos rfl]
 by_cases h : a3 = d3
 case neg => rw [if_neg h]; simp [h]
 subst h
 rw [if_pos rfl]
 by_cases h : b3 = e3
 case neg => rw [if_neg h]; simp [h]
 subst h
 rw [if_pos rfl]
 by_cases h : c3 = f3
 case neg => rw [if_neg h]; simp [h]
 subst h
 rw [if_pos rfl]
 by_cases h : k4 = l4
 case neg => rw [if_neg h]; simp [h]
 subst h
 rw [if_pos rfl]
 by_cases h : a4 = d4
 case neg => rw [if_neg h]; simp [h]
 subst h
 rw [if_pos rfl]
 by_cases h : b4 = e4
 case neg => rw [if_neg h]; simp [h]
 subst h
 rw [if_pos rfl]
 by_cases h : c4 = f4
 case neg => rw [if_neg h]; simp [h]
 subst h
 rw [if_pos rfl]
 simp
theorem run_build1c (x : QuadL) (w : World) : (Instr.buildSlice 22 1 #[(0, qv x)]).run Tryz.prog w = .ok (.slice (some ⟨w.heap.size, 0, none⟩) 1 1) (w.alloc (.cells (quadC x).toArray 36)) := by kernel_rfl
theorem wpList_build1c {ops : Array Oper} {rest : List Oper} {op : Oper} {a : Act} {w : World} {Q : Exit -> Act -> World -> Prop} (hgd : op.guard = none) (i : Operand) (ho : op.op = .buildSlice 22 1 #[(0, i)])
  (x : QuadL) (hx : a.eval i = qv x) (h : wpList Tryz.prog ops Q rest (a.put op.dst (.slice (some ⟨w.heap.size, 0, none⟩) 1 1)) (w.alloc (.cells (quadC x).toArray 36))) : wpList Tryz.prog ops Q (op :: rest) a w :=
 wpList_plain hgd fun K hK => by
  unfold Oper.wp execOp
  have e : (#[((0 : Nat), i)]).map (fun (p : Nat × Operand) => (p.1, a.eval p.2)) = #[(0, qv x)] := by simp [hx]
  simp only [ho, e, Sem.run_bind, run_build1c, Result.andThen_ok, Sem.run_pure]
  exact hK _ _ h
end Go.Proofs.YtdegonmkikfghaaGreatDoor
namespace Go.Proofs.YtdegonmkikfghaaGreatDoor
open Go.RowKit
set_option maxRecDepth 100000
theorem oneCell_quads (l : List QuadL) : ∀ u ∈ quadsC l, u.oneCell' = true := fun u hu => by
 obtain ⟨q, _, hq⟩ := List.mem_flatMap.1 hu
 exact oneCell_quad q u hq
theorem QAt.src {w : World} {ad : Addr} {l : List QuadL} (h : QAt w (some ad) l) : ∀ j v, (quadsC l)[j]? = some v -> w.cell? (ad.add j) = some v := fun j v hj => by
 obtain ⟨hlt, rfl⟩ := List.getElem?_eq_some_iff.1 hj
 obtain ⟨b, o, he, hc⟩ := h j hlt
 cases he
 rw [Addr.add_mid]
 exact hc
theorem wpList_append_print {ops : Array Oper} {rest : List Oper} {o : Oper} {a : Act} {w : World} {Q : Exit -> Act -> World -> Prop} (hgd : o.guard = none) (s x : Operand)
  (ho : o.op = .call { callee := .builtin .append, args := #[s, x], argTypes := #[22, 22] })
  (base : Nat) (v : Value) (n : Nat) (xs : List Value) (hs : a.eval s = v) (w0 : World) (hown : w0.ownsRow base 36 16 v n xs) (q : QuadL) (T : TypeId) (hw : w = w0.alloc (.cells (quadC q).toArray T))
  (hx : a.eval x = .slice (some ⟨w0.heap.size, 0, none⟩) 1 1) (hl : n <= 4194304) (hbase : base <= w0.heap.size)
  (h : ∀ v' w' xs', w'.ownsRow base 36 16 v' (n + 1) xs' -> w0.grownBy w' v.ownBlock -> (v'.ownBlock = v.ownBlock \/ v'.ownBlock = some (w0.heap.size + 1)) -> wpList Tryz.prog ops Q rest (a.put o.dst v') w') : wpList Tryz.prog ops Q (o :: rest) a w := by
 subst hw
 obtain ⟨i0, hi, hz0, hz1, hz2⟩ := info_parts infoQ
 refine wpList_append_own_at (P := Tryz.prog) _ hgd s x 22 ho base 36 i0 _ 16 224 Tryz.underlying22 hi hz0 hz1 hz2 rfl (by decide) v n xs hs (hown.alloc _)
  ⟨w0.heap.size, 0, none⟩ 1 1 (quadC q) hx rfl (cell_row w0 (quadC q) T) (oneCell_quad q) (by unfold maxLen; omega) (by omega) (by simp; omega) ?_
 intro v' w' h1 h2 _ h4
 exact h v' w' _ h1 ((World.grownBy_alloc w0 _ _).trans h2) (by simpa using h4)
theorem own_setCells {base g n cap : Nat} : ∀ (vs : List Value) (o : Nat) (w : World) (xs : List Value), w.ownsRow base 36 16 (.slice (some ⟨g, 0, none⟩) n cap) n xs ->
  ∃ xs', (w.setCells g o vs).ownsRow base 36 16 (.slice (some ⟨g, 0, none⟩) n cap) n xs' /\ w.grownBy (w.setCells g o vs) (some g)
 | [], _, w, xs, h => ⟨xs, h, World.grownBy.refl _ _⟩
 | v :: r, o, w, xs, h => by
  obtain ⟨h1, h2⟩ := h.stored o v
  obtain ⟨xs', h3, h4⟩ := own_setCells r (o + 1) _ _ h1
  exact ⟨xs', h3, h2.trans h4⟩
theorem own_there {base g n cap : Nat} {w : World} {xs : List Value} (h : w.ownsRow base 36 16 (.slice (some ⟨g, 0, none⟩) n cap) n xs) {k : Nat} (hk : k < n) : w.there g (k * 16) 16 := fun j hj => by
 have hlt : k * 16 + j < n * 16 := by
  have : (k + 1) * 16 <= n * 16 := Nat.mul_le_mul_right _ hk
  omega
 refine ⟨?_, h.frozenAt _⟩
 rw [h.cellAt _ hlt, List.getElem?_eq_getElem (by rw [h.1]; exact hlt)]
 rfl
theorem wpList_store_own {ops : Array Oper} {rest : List Oper} {op : Oper} {a : Act} {w : World} {Q : Exit -> Act -> World -> Prop} (hgd : op.guard = none) (p x : Operand) (ho : op.op = .store 36 p x)
  (base g n cap k : Nat) (xs : List Value) (hk : k < n) (hown : w.ownsRow base 36 16 (.slice (some ⟨g, 0, none⟩) n cap) n xs) (hp : a.eval p = .pointer (some ⟨g, k * 16, none⟩)) (q : QuadL) (hx : a.eval x = qv q)
  (h : ∀ w' xs', w'.ownsRow base 36 16 (.slice (some ⟨g, 0, none⟩) n cap) n xs' -> w.grownBy w' (some g) -> wpList Tryz.prog ops Q rest (a.put op.dst undef) w') : wpList Tryz.prog ops Q (op :: rest) a w := by
 obtain ⟨xs', h1, h2⟩ := own_setCells (quadC q) (k * 16) w xs hown
 exact wpList_store_mid hgd _ p x ho g (k * 16) (quadC q).toArray hp hx (own_there hown hk) (by kernel_rfl) (oneQ q) (h _ xs' h1 h2)
end Go.Proofs.YtdegonmkikfghaaGreatDoor
namespace Go.Proofs.YtdegonmkikfghaaGreatDoor
open Go.RowKit
set_option maxRecDepth 100000
theorem ownsRow_grown {w w' : World} {row : Option Nat} {base : Nat} {e : TypeId} {s : Nat} {v : Value} {n : Nat} {xs : List Value} (h : w.ownsRow base e s v n xs) (hg : w.grownBy w' row) (hne : ∀ k, v.ownBlock = some k -> some k ≠ row) : w'.ownsRow base e s v n xs := by
 refine ⟨h.1, ?_⟩
 rcases h.2 with hn | ⟨g, cap, cur, rfl, h1, h2, rest⟩
 ·exact .inl hn
 ·refine .inr ⟨g, cap, cur, rfl, h1, ?_, rest⟩
  rw [hg.block g (Array.getElem?_eq_some_iff.1 h2).1 (hne g rfl)]
  exact h2
end Go.Proofs.YtdegonmkikfghaaGreatDoor
