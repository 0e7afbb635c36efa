/-
  A whole row stored at once. By an AI agent.
-/
import Derived.Test.YtfocpjcbfbbpgaaGreatDoorZKit
import Derived.Deep.WholeRow
import Derived.WalkSpells
import Derived.WalkLawsBesides
namespace Go.Proofs.YtfocpjcbfbbpgaaGreatDoor
open Go.RowKit
section
variable {P : Program}
theorem wp_store_row {o : Oper} {a : Act} {w : World} {K : Act -> World -> Prop} {Q : Exit -> Act -> World -> Prop} (ty : TypeId) (p x : Operand) (ho : o.op = .store ty p x)
   (g : Nat) (hp : a.eval p = .pointer (some ⟨g, 0, none⟩)) (t : TypeId) (old cells : Array Value) (hx : a.eval x = .agg cells) (hg : w.heap[g]? = some (.cells old t (0, 0))) (hi : (P.info? ty).map (·.size) = some cells.size)
   (hs : old.size = cells.size) (h1 : cells.all (·.oneCell') = true) (h : K (a.put o.dst undef) (w.setRow g cells)) : o.wp P a w K Q := by
 unfold Oper.wp execOp
 simp only [ho, hp, hx, Instr.storeAt, Instr.sureAddr, Sem.run_bind, Sem.run_pure, Result.andThen_ok, run_storeVar_row w g t ty old cells hg hi hs h1]
 exact h
theorem wpList_store_row {ops : Array Oper} {rest : List Oper} {o : Oper} {a : Act} {w : World} {Q : Exit -> Act -> World -> Prop} (hgd : o.guard = none) (ty : TypeId) (p x : Operand) (ho : o.op = .store ty p x)
   (g : Nat) (hp : a.eval p = .pointer (some ⟨g, 0, none⟩)) (t : TypeId) (old cells : Array Value) (hx : a.eval x = .agg cells) (hg : w.heap[g]? = some (.cells old t (0, 0))) (hi : (P.info? ty).map (·.size) = some cells.size)
   (hs : old.size = cells.size) (h1 : cells.all (·.oneCell') = true) (h : wpList P ops Q rest (a.put o.dst undef) (w.setRow g cells)) : wpList P ops Q (o :: rest) a w :=
 wpList_plain hgd fun _ hK => wp_store_row ty p x ho g hp t old cells hx hg hi hs h1 (hK _ _ h)
end
theorem ownsRow_below {w w' : World} {base : Nat} {e : TypeId} {size : Nat} {v : Value} {n : Nat} {xs : List Value} (h : w.ownsRow base e size v n xs) (hb : Below w.heap.size w w') : w'.ownsRow base e size v n xs := by
 refine ⟨h.1, ?_⟩
 rcases h.2 with hn | ⟨g, cap, cur, rfl, h1, h2, rest⟩
 · exact .inl hn
 · refine .inr ⟨g, cap, cur, rfl, h1, ?_, rest⟩
   rw [hb.block g (Array.getElem?_eq_some_iff.1 h2).1]
   exact h2
end Go.Proofs.YtfocpjcbfbbpgaaGreatDoor
