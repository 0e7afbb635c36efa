/-
  Terms and quads as cells. By an AI agent.
-/
import Derived.Test.YtmnigckpejcaeaaGreatDoorZTerm0
import Derived.Test.YtmnigckpejcaeaaGreatDoorZGPlain
import Derived.Deep.MidRow
import Derived.Test.YtmnigckpejcaeaaGreatDoorZKit
import Derived.Deep.WholeRow
import Derived.WalkSpells
import Derived.WalkLawsBesides
namespace Go.Proofs.YtmnigckpejcaeaaGreatDoor
open Go.RowKit
set_option maxRecDepth 100000
def termC (t : TermL) : List Value := [.int .i64 t.kind, .string (B t.text), .string (B t.type), .string (B t.lang)]
def quadC (q : QuadL) : List Value := termC q.s ++ (termC q.p ++ (termC q.o ++ termC q.g))
def quadsC (l : List QuadL) : List Value := l.flatMap quadC
theorem quadC_len (q : QuadL) : (quadC q).length = 16 := rfl
theorem quadsC_len : ∀ l : List QuadL, (quadsC l).length = l.length * 16
 | [] => rfl
 | q :: r => by
   have := quadsC_len r
   unfold quadsC at this ⊢
   rw [List.flatMap_cons, List.length_append, this, quadC_len, List.length_cons]
   omega
theorem quadsC_cons (q : QuadL) (r : List QuadL) : quadsC (q :: r) = quadC q ++ quadsC r := rfl
theorem quadsC_append (a b : List QuadL) : quadsC (a ++ b) = quadsC a ++ quadsC b := by unfold quadsC; rw [List.flatMap_append]
theorem quadsC_get : ∀ (l : List QuadL) (k : Nat) (hk : k < l.length) (j : Nat) (_ : j < 16), (quadsC l)[k * 16 + j]? = (quadC l[k])[j]?
 | [], _, hk, _, _ => by simp at hk
 | q :: r, 0, _, j, hj => by rw [quadsC_cons, Nat.zero_mul, Nat.zero_add, List.getElem?_append_left (by rw [quadC_len]; exact hj)]; rfl
 | q :: r, k + 1, hk, j, hj => by
   rw [quadsC_cons, List.getElem?_append_right (by rw [quadC_len]; omega), quadC_len, show (k + 1) * 16 + j - 16 = k * 16 + j by omega, quadsC_get r k (by simpa using hk) j hj]
   rfl
theorem range_below {w w' : World} {b o : Nat} {cs : List Value} (h : w.rangeAt b o cs) (hb : Below w.heap.size w w') : w'.rangeAt b o cs := fun j v hj => by
 have := h j v hj
 rw [hb.cell (p := ⟨b, o + j, none⟩) (World.block_lt_of_cell? _ _ this)]
 exact this
def QAt (w : World) (a : Option Addr) (l : List QuadL) : Prop := At w a (quadsC l)
theorem QAt.nil (w : World) (a : Option Addr) : QAt w a [] := At.nil w a
theorem QAt.below {w w' : World} {a : Option Addr} {l : List QuadL} (h : QAt w a l) (hb : Below w.heap.size w w') : QAt w' a l := At.below h hb
theorem QAt.place {w : World} {a : Option Addr} {l : List QuadL} (h : QAt w a l) (h0 : 0 < l.length) : ∃ b o, a = some ⟨b, o, none⟩ := At.place h (by rw [quadsC_len]; omega)
theorem QAt.get {w : World} {b o : Nat} {l : List QuadL} (h : QAt w (some ⟨b, o, none⟩) l) {k : Nat} (hk : k < l.length) : w.rangeAt b (o + k * 16) (quadC l[k]) := fun j v hj => by
 have hj16 : j < 16 := by have := (List.getElem?_eq_some_iff.1 hj).1; rw [quadC_len] at this; exact this
 have h1 := quadsC_get l k hk j hj16
 rw [hj] at h1
 obtain ⟨h2, h3⟩ := List.getElem?_eq_some_iff.1 h1
 have := At.get h h2
 rw [h3] at this
 rw [show o + k * 16 + j = o + (k * 16 + j) by omega]
 exact this
theorem QAt.head {w : World} {b o : Nat} {q : QuadL} {l : List QuadL} (h : QAt w (some ⟨b, o, none⟩) (q :: l)) : w.rangeAt b o (quadC q) := by
 have := h.get (k := 0) (by simp)
 simpa using this
theorem QAt.tail {w : World} {b o : Nat} {q : QuadL} {l : List QuadL} (h : QAt w (some ⟨b, o, none⟩) (q :: l)) : QAt w (some ⟨b, o + 16, none⟩) l := fun j hj => by
 have h1 : 16 + j < (quadsC (q :: l)).length := by rw [quadsC_len] at hj ⊢; simp; omega
 have h2 := At.get h h1
 refine ⟨b, o + 16, rfl, ?_⟩
 rw [Nat.add_assoc, h2]
 congr 1
 have h3 : (quadC q ++ quadsC l)[16 + j]? = (quadsC l)[j]? := by rw [List.getElem?_append_right (by rw [quadC_len]; omega), quadC_len]; congr 1; omega
 rw [<- quadsC_cons, List.getElem?_eq_getElem h1, List.getElem?_eq_getElem hj] at h3
 exact Option.some.inj h3
theorem QAt.drop {w : World} {b o : Nat} {l : List QuadL} (h : QAt w (some ⟨b, o, none⟩) l) (k : Nat) (hk : k <= l.length) : QAt w (some ⟨b, o + k * 16, none⟩) (l.drop k) := by
 induction k with
 | zero => simpa using h
 | succ k ih =>
   have := ih (by omega)
   rw [List.drop_eq_getElem_cons (by omega)] at this
   have := this.tail
   rw [show o + k * 16 + 16 = o + (k + 1) * 16 by omega] at this
   exact this
theorem cells16 {w : World} {b o : Nat} {q : QuadL} (h : w.rangeAt b o (quadC q)) : w.cell? ⟨b, o, none⟩ = some (.int .i64 q.s.kind) /\ w.cell? ⟨b, o + 1, none⟩ = some (.string (B q.s.text)) /\ w.cell? ⟨b, o + 2, none⟩ = some (.string (B q.s.type)) /\ w.cell? ⟨b, o + 3, none⟩ = some (.string (B q.s.lang)) /\ w.cell? ⟨b, o + 4, none⟩ = some (.int .i64 q.p.kind) /\ w.cell? ⟨b, o + 5, none⟩ = some (.string (B q.p.text)) /\ w.cell? ⟨b, o + 6, none⟩ = some (.string (B q.p.type)) /\ w.cell? ⟨b, o + 7, none⟩ = some (.string (B q.p.lang)) /\ w.cell? ⟨b, o + 8, none⟩ = some (.int .i64 q.o.kind) /\ w.cell? ⟨b, o + 9, none⟩ = some (.string (B q.o.text)) /\ w.cell? ⟨b, o + 10, none⟩ = some (.string (B q.o.type)) /\ w.cell? ⟨b, o + 11, none⟩ = some (.string (B q.o.lang)) /\ w.cell? ⟨b, o + 12, none⟩ = some (.int .i64 q.g.kind) /\ w.cell? ⟨b, o + 13, none⟩ = some (.string (B q.g.text)) /\ w.cell? ⟨b, o + 14, none⟩ = some (.string (B q.g.type)) /\ w.cell? ⟨b, o + 15, none⟩ = some (.string (B q.g.lang)) :=
 ⟨h 0 _ rfl, h 1 _ rfl, h 2 _ rfl, h 3 _ rfl, h 4 _ rfl, h 5 _ rfl, h 6 _ rfl, h 7 _ rfl, h 8 _ rfl, h 9 _ rfl, h 10 _ rfl, h 11 _ rfl, h 12 _ rfl, h 13 _ rfl, h 14 _ rfl, h 15 _ rfl⟩
end Go.Proofs.YtmnigckpejcaeaaGreatDoor
namespace Go.Proofs.YtmnigckpejcaeaaGreatDoor
open Go.RowKit
section
variable {P : Program}
theorem wp_store_row {o : Oper} {a : Act} {w : World} {K : Act -> World -> Prop} {Q : Exit -> Act -> World -> Prop} (ty : TypeId) (p x : Operand) (ho : o.op = .store ty p x)
   (g : Nat) (hp : a.eval p = .pointer (some ⟨g, 0, none⟩)) (t : TypeId) (old cells : Array Value) (hx : a.eval x = .agg cells) (hg : w.heap[g]? = some (.cells old t (0, 0))) (hi : (P.info? ty).map (·.size) = some cells.size)
   (hs : old.size = cells.size) (h1 : cells.all (·.oneCell') = true) (h : K (a.put o.dst undef) (w.setRow g cells)) : o.wp P a w K Q := by
 unfold Oper.wp execOp
 simp only [ho, hp, hx, Instr.storeAt, Instr.sureAddr, Sem.run_bind, Sem.run_pure, Result.andThen_ok, run_storeVar_row w g t ty old cells hg hi hs h1]
 exact h
theorem wpList_store_row {ops : Array Oper} {rest : List Oper} {o : Oper} {a : Act} {w : World} {Q : Exit -> Act -> World -> Prop} (hgd : o.guard = none) (ty : TypeId) (p x : Operand) (ho : o.op = .store ty p x)
   (g : Nat) (hp : a.eval p = .pointer (some ⟨g, 0, none⟩)) (t : TypeId) (old cells : Array Value) (hx : a.eval x = .agg cells) (hg : w.heap[g]? = some (.cells old t (0, 0))) (hi : (P.info? ty).map (·.size) = some cells.size)
   (hs : old.size = cells.size) (h1 : cells.all (·.oneCell') = true) (h : wpList P ops Q rest (a.put o.dst undef) (w.setRow g cells)) : wpList P ops Q (o :: rest) a w :=
 wpList_plain hgd fun _ hK => wp_store_row ty p x ho g hp t old cells hx hg hi hs h1 (hK _ _ h)
end
theorem ownsRow_below {w w' : World} {base : Nat} {e : TypeId} {size : Nat} {v : Value} {n : Nat} {xs : List Value} (h : w.ownsRow base e size v n xs) (hb : Below w.heap.size w w') : w'.ownsRow base e size v n xs := by
 refine ⟨h.1, ?_⟩
 rcases h.2 with hn | ⟨g, cap, cur, rfl, h1, h2, rest⟩
 · exact .inl hn
 · refine .inr ⟨g, cap, cur, rfl, h1, ?_, rest⟩
   rw [hb.block g (Array.getElem?_eq_some_iff.1 h2).1]
   exact h2
end Go.Proofs.YtmnigckpejcaeaaGreatDoor
