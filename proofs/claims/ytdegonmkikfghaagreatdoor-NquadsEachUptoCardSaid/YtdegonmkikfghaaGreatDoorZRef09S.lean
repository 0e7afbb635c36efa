/-
  tesseraref09.statement: a contract. By an AI agent.
-/
import Derived.Test.YtdegonmkikfghaaGreatDoorZRefNx3
namespace Go.Proofs.YtdegonmkikfghaaGreatDoor
open Go.RowKit
set_option maxRecDepth 100000
def stmtV : (QuadL × Nat) ⊕ (Nat × Int) -> Value
 | .inl (q, n) => .tuple #[qv q, .int .i64 (n : Int), .agg #[.int .i64 0, .int .i64 0]]
 | .inr (p, e) => .tuple #[qv noQuad, .int .i64 0, .agg #[.int .i64 (p : Int), .int .i64 e]]
structure StMem (w wr : World) (x : QuadL) : Prop where
 b : Below w.heap.size w wr
 z : wr.heap[w.heap.size]? = some (.cells (quadC noQuad).toArray 36 (0, 0))
 f : RowAt wr (w.heap.size + 1) [.int .i64 0, .int .i64 0]
 q : RowAt wr (w.heap.size + 1 + 1) (quadC x)
 s : RowAt wr (w.heap.size + 1 + 1 + 1) [.string ⟨#[60, 95]⟩, .string ⟨#[60]⟩, .string ⟨#[60, 95, 34]⟩, .string ⟨#[60, 95]⟩]
theorem StMem.below {w wr u : World} {x : QuadL} (h : StMem w wr x) (h2 : Below wr.heap.size wr u) : StMem w u x :=
 ⟨h.b.trans (h2.mono h.b.size), (h2.block w.heap.size (Array.getElem?_eq_some_iff.1 h.z).1).trans h.z, rowAt_below h.f h2, rowAt_below h.q h2, rowAt_below h.s h2⟩
theorem StMem.lt {w wr : World} {x : QuadL} (h : StMem w wr x) : w.heap.size + 1 + 1 < wr.heap.size := World.block_lt_of_cell? _ _ (h.q.cell (j := 0) (by simp [quadC, termC]))
theorem StMem.lts {w wr : World} {x : QuadL} (h : StMem w wr x) : w.heap.size + 1 + 1 + 1 < wr.heap.size := World.block_lt_of_cell? _ _ (h.s.cell (j := 0) (by simp))
theorem StMem.ltz {w wr : World} {x : QuadL} (h : StMem w wr x) : w.heap.size < wr.heap.size := by have := h.lt; omega
theorem StMem.ltf {w wr : World} {x : QuadL} (h : StMem w wr x) : w.heap.size + 1 < wr.heap.size := by have := h.lt; omega
theorem StMem.put0 {w wr : World} {q : QuadL} (h : StMem w wr q) (t : TermL) : StMem w ((((wr.setCell ⟨w.heap.size + 1 + 1, 0, none⟩ (.int .i64 t.kind)).setCell ⟨w.heap.size + 1 + 1, 1, none⟩ (.string (B t.text))).setCell ⟨w.heap.size + 1 + 1, 2, none⟩ (.string (B t.type))).setCell ⟨w.heap.size + 1 + 1, 3, none⟩ (.string (B t.lang))) ⟨t, q.p, q.o, q.g⟩ := by
 refine ⟨(((h.b.setCell (p := ⟨w.heap.size + 1 + 1, 0, none⟩) (by simp; omega) _).setCell (p := ⟨w.heap.size + 1 + 1, 1, none⟩) (by simp; omega) _).setCell (p := ⟨w.heap.size + 1 + 1, 2, none⟩) (by simp; omega) _).setCell (p := ⟨w.heap.size + 1 + 1, 3, none⟩) (by simp; omega) _, ?_, (((h.f.other (by omega) _).other (by omega) _).other (by omega) _).other (by omega) _, ?_, (((h.s.other (by omega) _).other (by omega) _).other (by omega) _).other (by omega) _⟩
 ·rw [RowKit.Below.heap_setCell _ _ _ _ (by simp; omega), RowKit.Below.heap_setCell _ _ _ _ (by simp; omega), RowKit.Below.heap_setCell _ _ _ _ (by simp; omega), RowKit.Below.heap_setCell _ _ _ _ (by simp; omega)]
  exact h.z
 ·have := (((h.q.set (j := 0) (by simp [quadC, termC]) (.int .i64 t.kind)).set (j := 1) (by simp [quadC, termC]) (.string (B t.text))).set (j := 2) (by simp [quadC, termC]) (.string (B t.type))).set (j := 3) (by simp [quadC, termC]) (.string (B t.lang))
  exact this
theorem StMem.put1 {w wr : World} {q : QuadL} (h : StMem w wr q) (t : TermL) : StMem w ((((wr.setCell ⟨w.heap.size + 1 + 1, 4, none⟩ (.int .i64 t.kind)).setCell ⟨w.heap.size + 1 + 1, 5, none⟩ (.string (B t.text))).setCell ⟨w.heap.size + 1 + 1, 6, none⟩ (.string (B t.type))).setCell ⟨w.heap.size + 1 + 1, 7, none⟩ (.string (B t.lang))) ⟨q.s, t, q.o, q.g⟩ := by
 refine ⟨(((h.b.setCell (p := ⟨w.heap.size + 1 + 1, 4, none⟩) (by simp; omega) _).setCell (p := ⟨w.heap.size + 1 + 1, 5, none⟩) (by simp; omega) _).setCell (p := ⟨w.heap.size + 1 + 1, 6, none⟩) (by simp; omega) _).setCell (p := ⟨w.heap.size + 1 + 1, 7, none⟩) (by simp; omega) _, ?_, (((h.f.other (by omega) _).other (by omega) _).other (by omega) _).other (by omega) _, ?_, (((h.s.other (by omega) _).other (by omega) _).other (by omega) _).other (by omega) _⟩
 ·rw [RowKit.Below.heap_setCell _ _ _ _ (by simp; omega), RowKit.Below.heap_setCell _ _ _ _ (by simp; omega), RowKit.Below.heap_setCell _ _ _ _ (by simp; omega), RowKit.Below.heap_setCell _ _ _ _ (by simp; omega)]
  exact h.z
 ·have := (((h.q.set (j := 4) (by simp [quadC, termC]) (.int .i64 t.kind)).set (j := 5) (by simp [quadC, termC]) (.string (B t.text))).set (j := 6) (by simp [quadC, termC]) (.string (B t.type))).set (j := 7) (by simp [quadC, termC]) (.string (B t.lang))
  exact this
theorem StMem.put2 {w wr : World} {q : QuadL} (h : StMem w wr q) (t : TermL) : StMem w ((((wr.setCell ⟨w.heap.size + 1 + 1, 8, none⟩ (.int .i64 t.kind)).setCell ⟨w.heap.size + 1 + 1, 9, none⟩ (.string (B t.text))).setCell ⟨w.heap.size + 1 + 1, 10, none⟩ (.string (B t.type))).setCell ⟨w.heap.size + 1 + 1, 11, none⟩ (.string (B t.lang))) ⟨q.s, q.p, t, q.g⟩ := by
 refine ⟨(((h.b.setCell (p := ⟨w.heap.size + 1 + 1, 8, none⟩) (by simp; omega) _).setCell (p := ⟨w.heap.size + 1 + 1, 9, none⟩) (by simp; omega) _).setCell (p := ⟨w.heap.size + 1 + 1, 10, none⟩) (by simp; omega) _).setCell (p := ⟨w.heap.size + 1 + 1, 11, none⟩) (by simp; omega) _, ?_, (((h.f.other (by omega) _).other (by omega) _).other (by omega) _).other (by omega) _, ?_, (((h.s.other (by omega) _).other (by omega) _).other (by omega) _).other (by omega) _⟩
 ·rw [RowKit.Below.heap_setCell _ _ _ _ (by simp; omega), RowKit.Below.heap_setCell _ _ _ _ (by simp; omega), RowKit.Below.heap_setCell _ _ _ _ (by simp; omega), RowKit.Below.heap_setCell _ _ _ _ (by simp; omega)]
  exact h.z
 ·have := (((h.q.set (j := 8) (by simp [quadC, termC]) (.int .i64 t.kind)).set (j := 9) (by simp [quadC, termC]) (.string (B t.text))).set (j := 10) (by simp [quadC, termC]) (.string (B t.type))).set (j := 11) (by simp [quadC, termC]) (.string (B t.lang))
  exact this
theorem StMem.put3 {w wr : World} {q : QuadL} (h : StMem w wr q) (t : TermL) : StMem w ((((wr.setCell ⟨w.heap.size + 1 + 1, 12, none⟩ (.int .i64 t.kind)).setCell ⟨w.heap.size + 1 + 1, 13, none⟩ (.string (B t.text))).setCell ⟨w.heap.size + 1 + 1, 14, none⟩ (.string (B t.type))).setCell ⟨w.heap.size + 1 + 1, 15, none⟩ (.string (B t.lang))) ⟨q.s, q.p, q.o, t⟩ := by
 refine ⟨(((h.b.setCell (p := ⟨w.heap.size + 1 + 1, 12, none⟩) (by simp; omega) _).setCell (p := ⟨w.heap.size + 1 + 1, 13, none⟩) (by simp; omega) _).setCell (p := ⟨w.heap.size + 1 + 1, 14, none⟩) (by simp; omega) _).setCell (p := ⟨w.heap.size + 1 + 1, 15, none⟩) (by simp; omega) _, ?_, (((h.f.other (by omega) _).other (by omega) _).other (by omega) _).other (by omega) _, ?_, (((h.s.other (by omega) _).other (by omega) _).other (by omega) _).other (by omega) _⟩
 ·rw [RowKit.Below.heap_setCell _ _ _ _ (by simp; omega), RowKit.Below.heap_setCell _ _ _ _ (by simp; omega), RowKit.Below.heap_setCell _ _ _ _ (by simp; omega), RowKit.Below.heap_setCell _ _ _ _ (by simp; omega)]
  exact h.z
 ·have := (((h.q.set (j := 12) (by simp [quadC, termC]) (.int .i64 t.kind)).set (j := 13) (by simp [quadC, termC]) (.string (B t.text))).set (j := 14) (by simp [quadC, termC]) (.string (B t.type))).set (j := 15) (by simp [quadC, termC]) (.string (B t.lang))
  exact this
theorem stMem_new (w : World) : StMem w ((((w.alloc (.cells (quadC noQuad).toArray 36)).alloc (.cells #[.int .i64 0, .int .i64 0] 42)).alloc (.cells (quadC noQuad).toArray 72)).alloc (.cells #[.string ⟨#[60, 95]⟩, .string ⟨#[60]⟩, .string ⟨#[60, 95, 34]⟩, .string ⟨#[60, 95]⟩] 146)) noQuad := by
 have s1 : (w.alloc (.cells (quadC noQuad).toArray 36)).heap.size = w.heap.size + 1 := World.size_alloc _ _
 have s2 : ((w.alloc (.cells (quadC noQuad).toArray 36)).alloc (.cells #[.int .i64 0, .int .i64 0] 42)).heap.size = w.heap.size + 1 + 1 := by rw [World.size_alloc, s1]
 have s3 : (((w.alloc (.cells (quadC noQuad).toArray 36)).alloc (.cells #[.int .i64 0, .int .i64 0] 42)).alloc (.cells (quadC noQuad).toArray 72)).heap.size = w.heap.size + 1 + 1 + 1 := by rw [World.size_alloc, s2]
 have hb0 : Below w.heap.size w (w.alloc (.cells (quadC noQuad).toArray 36)) := (Below.refl _ _).alloc (Nat.le_refl _) _
 have hb1 := hb0.alloc hb0.size (.cells #[.int .i64 0, .int .i64 0] 42)
 have hb2 := hb1.alloc hb1.size (.cells (quadC noQuad).toArray 72)
 have hb3 := hb2.alloc hb2.size (.cells #[.string ⟨#[60, 95]⟩, .string ⟨#[60]⟩, .string ⟨#[60, 95, 34]⟩, .string ⟨#[60, 95]⟩] 146)
 refine ⟨hb3, ?_, ?_, ?_, ?_⟩
 ·rw [heap_alloc_old _ _ (by omega), heap_alloc_old _ _ (by omega), heap_alloc_old _ _ (by omega)]
  exact heap_alloc_new _ _
 ·have h := flt_new (w.alloc (.cells (quadC noQuad).toArray 36))
  rw [s1] at h
  have h2 := rowAt_below h (w' := ((w.alloc (.cells (quadC noQuad).toArray 36)).alloc (.cells #[.int .i64 0, .int .i64 0] 42)).alloc (.cells (quadC noQuad).toArray 72)) ((Below.refl _ _).alloc (Nat.le_refl _) _)
  exact rowAt_below h2 ((Below.refl _ _).alloc (Nat.le_refl _) _)
 ·have h := rowAt_of_heap (w := ((w.alloc (.cells (quadC noQuad).toArray 36)).alloc (.cells #[.int .i64 0, .int .i64 0] 42)).alloc (.cells (quadC noQuad).toArray 72)) (L := quadC noQuad) (t := 72) (heap_alloc_new _ _)
  rw [s2] at h
  exact rowAt_below h ((Below.refl _ _).alloc (Nat.le_refl _) _)
 ·have h := rowAt_of_heap (w := (((w.alloc (.cells (quadC noQuad).toArray 36)).alloc (.cells #[.int .i64 0, .int .i64 0] 42)).alloc (.cells (quadC noQuad).toArray 72)).alloc (.cells #[.string ⟨#[60, 95]⟩, .string ⟨#[60]⟩, .string ⟨#[60, 95, 34]⟩, .string ⟨#[60, 95]⟩] 146)) (L := [.string ⟨#[60, 95]⟩, .string ⟨#[60]⟩, .string ⟨#[60, 95, 34]⟩, .string ⟨#[60, 95]⟩]) (t := 146) (heap_alloc_new _ _)
  rw [s3] at h
  exact h
theorem setRow_self {w : World} {g : Nat} {cs : Array Value} {T : TypeId} {fr : Nat × Nat} (h : w.heap[g]? = some (.cells cs T fr)) : w.setRow g cs = w := by
 cases w with
 | mk heap =>
 simp only [World.setRow] at h ⊢
 congr 1
 apply Array.ext_getElem?
 intro i
 rw [Array.getElem?_modify]
 by_cases e : g = i
 ·subst e
  rw [h]; simp
 ·simp [e]
theorem setRow_alloc_2 (w : World) (c c' : Array Value) (t : TypeId) (o : Obj) : ((w.alloc (.cells c t)).alloc o).setRow w.heap.size c' = (w.alloc (.cells c' t)).alloc o := by
 simp only [World.setRow, World.alloc]
 congr 1
 apply Array.ext_getElem?
 intro i
 rw [Array.getElem?_modify]
 by_cases h : w.heap.size = i
 ·subst h
  simp [Array.getElem?_push]
 ·have h' : ¬ i = w.heap.size := fun e => h e.symm
  simp [h, h', Array.getElem?_push]
theorem wpList_store_same {ops : Array Oper} {rest : List Oper} {op : Oper} {a : Act} {w : World} {Q : Exit -> Act -> World -> Prop} (hgd : op.guard = none) (p x : Operand) (ho : op.op = .store 36 p x)
  (g : Nat) (hp : a.eval p = .pointer (some ⟨g, 0, none⟩)) (q : QuadL) (hx : a.eval x = qv q) (T : TypeId) (hg : w.heap[g]? = some (.cells (quadC q).toArray T (0, 0)))
  (h : wpList Tryz.prog ops Q rest (a.put op.dst undef) w) : wpList Tryz.prog ops Q (op :: rest) a w := by
 refine wpList_store_quad hgd p x ho g hp q hx T _ rfl hg ?_
 rw [setRow_self hg]
 exact h
theorem cells_two (w : World) (g : Nat) (cs : Array Value) {a b : Value} {f : Nat} (h : RowAt w f [a, b]) (hne : f ≠ g) : (w.setRow g cs).cell? ⟨f, 0, none⟩ = some a /\ (w.setRow g cs).cell? ⟨f, 1, none⟩ = some b /\ (w.setRow g cs).frozen? ⟨f, 0, none⟩ = false /\ (w.setRow g cs).frozen? ⟨f, 1, none⟩ = false := by
 have e : (w.setRow g cs).heap[f]? = w.heap[f]? := setRow_other _ _ _ _ hne
 have hf : ∀ j, (w.setRow g cs).frozen? ⟨f, j, none⟩ = w.frozen? ⟨f, j, none⟩ := fun j => by simp only [World.frozen?]; rw [e]
 exact ⟨by rw [World.cell?_of_block e]; exact h.cell (j := 0) (by simp), by rw [World.cell?_of_block e]; exact h.cell (j := 1) (by simp), by rw [hf]; exact h.free (j := 0) (by simp), by rw [hf]; exact h.free (j := 1) (by simp)⟩
theorem refNext7_bad {l : List UInt8} {i p : Nat} {e : Int} (h : termAt l i = .inr (p, e)) (w : World) (hl : l.length <= 4194304) (hi : i < l.length) : Calls Tryz.prog 90 #[.string (B l), .int .i64 (i : Int)] w fun x w' => x = .returned (.tuple #[.agg #[.int .i64 0, .string ⟨#[]⟩, .string ⟨#[]⟩, .string ⟨#[]⟩], .int .i64 0, .agg #[.int .i64 (p : Int), .int .i64 e]]) /\ Below w.heap.size w w' := by
 have := refNext7_l l i w hl hi
 rw [h] at this
 exact this
theorem refNext7_ok {l : List UInt8} {i n : Nat} {t : TermL} (h : termAt l i = .inl (t, n)) (w : World) (hl : l.length <= 4194304) (hi : i < l.length) : Calls Tryz.prog 90 #[.string (B l), .int .i64 (i : Int)] w fun x w' => x = .returned (.tuple #[.agg #[.int .i64 t.kind, .string (B t.text), .string (B t.type), .string (B t.lang)], .int .i64 (n : Int), .agg #[.int .i64 0, .int .i64 0]]) /\ Below w.heap.size w w' := by
 have := refNext7_l l i w hl hi
 rw [h] at this
 exact this
theorem refBlanks_to {l : List UInt8} {i j : Nat} (h : blkF l i = j) (w : World) (hi : i <= l.length) (hl : l.length <= 16777216) :
  Calls Tryz.prog 62 #[.string (B l), .int .i64 (i : Int)] w fun e w' => e = .returned (.int .i64 (j : Int)) /\ w' = w := h ▸ refBlanks_l l i w hi hl
theorem refStarts_to {l t : List UInt8} {i : Nat} {b : Bool} (h : seesB l i t = b) (w : World) (hi : i <= l.length) (hl : l.length <= 16777216) (ht : t.length <= 100) :
  Calls Tryz.prog 89 #[.string (B l), .int .i64 (i : Int), .string (B t)] w fun e w' => e = .returned (.bool b) /\ Below w.heap.size w w' := h ▸ refStarts_l l t i w hi hl ht
theorem slotF_sees {l s : List UInt8} {j : Nat} (h : seesB l j s = true) : j < l.length /\ slotF l j s = (match termAt l j with
  | .inr f => .inr f
  | .inl (t, n) => .inl (t, blkF l n)) := by
 unfold seesB at h
 rw [Bool.and_eq_true, decide_eq_true_eq, List.contains_iff_mem] at h
 exact ⟨h.1, by unfold slotF; rw [if_pos h]; rfl⟩
theorem slotF_not {l s : List UInt8} {j : Nat} (h : seesB l j s = false) : slotF l j s = .inr (j, 90) := by
 unfold slotF
 rw [if_neg]
 intro hh
 have : seesB l j s = true := by
  unfold seesB
  rw [Bool.and_eq_true, decide_eq_true_eq, List.contains_iff_mem]
  exact hh
 rw [h] at this
 cases this
theorem free16 {w : World} {g : Nat} {cs : Array Value} {T : TypeId} (h : w.heap[g]? = some (.cells cs T (0, 0))) : w.frozen? ⟨g, 0, none⟩ = false /\ w.frozen? ⟨g, 1, none⟩ = false /\ w.frozen? ⟨g, 2, none⟩ = false /\ w.frozen? ⟨g, 3, none⟩ = false /\ w.frozen? ⟨g, 4, none⟩ = false /\ w.frozen? ⟨g, 5, none⟩ = false /\ w.frozen? ⟨g, 6, none⟩ = false /\ w.frozen? ⟨g, 7, none⟩ = false /\ w.frozen? ⟨g, 8, none⟩ = false /\ w.frozen? ⟨g, 9, none⟩ = false /\ w.frozen? ⟨g, 10, none⟩ = false /\ w.frozen? ⟨g, 11, none⟩ = false /\ w.frozen? ⟨g, 12, none⟩ = false /\ w.frozen? ⟨g, 13, none⟩ = false /\ w.frozen? ⟨g, 14, none⟩ = false /\ w.frozen? ⟨g, 15, none⟩ = false := by
 simp [World.frozen?, h]
theorem far_facts {b W : Nat} (h : b < W) : b < W + 1 /\ ¬ b = W /\ ¬ b = W + 1 /\ ¬ W = b /\ ¬ W + 1 = b := by omega
def firstLoopC : Code -> Option Code
 | .loop c => some c
 | .seq a b => match firstLoopC a with
  | some c => some c
  | none => firstLoopC b
 | .block _ c => firstLoopC c
 | .scope c => firstLoopC c
 | .cond _ a b => match firstLoopC a with
  | some c => some c
  | none => firstLoopC b
 | _ => none
noncomputable def stBody : Code := ((Tryz.f63.body.bind firstLoopC).getD .skip)
theorem results_st (tm : Array Value) (u : World) (g f : Nat) (q : QuadL) (n p e : Int) (h4 : tm.getD 4 undef = .pointer (some ⟨g, 0, none⟩)) (h5 : tm.getD 5 undef = .int .i64 n) (h6 : tm.getD 6 undef = .pointer (some ⟨f, 0, none⟩))
  (hz : u.rangeAt g 0 (quadC q)) (c0 : u.cell? ⟨f, 0, none⟩ = some (.int .i64 p)) (c1 : u.cell? ⟨f, 1, none⟩ = some (.int .i64 e)) :
  (results Tryz.f63 tm).run Tryz.prog u = .ok (.tuple #[qv q, .int .i64 n, .agg #[.int .i64 p, .int .i64 e]]) u := by
 obtain ⟨z0, z1, z2, z3, z4, z5, z6, z7, z8, z9, z10, z11, z12, z13, z14, z15⟩ := cells16 hz
 simp only [Nat.zero_add] at z1 z2 z3 z4 z5 z6 z7 z8 z9 z10 z11 z12 z13 z14 z15
 have hr : (Tryz.f63).results = #[.cell 4 36, .tmp 5, .cell 6 42] := rfl
 rw [Array.getD_eq_getD_getElem?] at h4 h5 h6
 simp [results, h4, h5, h6, go_sem, c0, c1, z0, z1, z2, z3, z4, z5, z6, z7, z8, z9, z10, z11, z12, z13, z14, z15]
theorem StMem.fin {w u : World} {x : QuadL} (h : StMem w u x) (p e : Int) :
  ((u.setCell ⟨w.heap.size + 1, 0, none⟩ (.int .i64 p)).setCell ⟨w.heap.size + 1, 1, none⟩ (.int .i64 e)).rangeAt w.heap.size 0 (quadC noQuad) /\
  ((u.setCell ⟨w.heap.size + 1, 0, none⟩ (.int .i64 p)).setCell ⟨w.heap.size + 1, 1, none⟩ (.int .i64 e)).cell? ⟨w.heap.size + 1, 0, none⟩ = some (.int .i64 p) /\
  ((u.setCell ⟨w.heap.size + 1, 0, none⟩ (.int .i64 p)).setCell ⟨w.heap.size + 1, 1, none⟩ (.int .i64 e)).cell? ⟨w.heap.size + 1, 1, none⟩ = some (.int .i64 e) /\
  Below w.heap.size w ((u.setCell ⟨w.heap.size + 1, 0, none⟩ (.int .i64 p)).setCell ⟨w.heap.size + 1, 1, none⟩ (.int .i64 e)) := by
 have hf := (h.f.set (j := 0) (by simp) (.int .i64 p)).set (j := 1) (by simp) (.int .i64 e)
 refine ⟨?_, hf.cell (j := 0) (by simp), hf.cell (j := 1) (by simp), (h.b.setCell (by simp) _).setCell (by simp) _⟩
 refine range_row (T := 36) (fr := (0, 0)) ?_
 rw [RowKit.Below.heap_setCell _ _ _ _ (by simp), RowKit.Below.heap_setCell _ _ _ _ (by simp)]
 exact h.z
theorem setCell_self {u : World} {g k : Nat} {cs : Array Value} {T : TypeId} {fr : Nat × Nat} {v : Value} (h : u.heap[g]? = some (.cells cs T fr)) (hk : cs[k]? = some v) : u.setCell ⟨g, k, none⟩ v = u := by
 cases u with
 | mk heap =>
 simp only [World.setCell] at h ⊢
 congr 1
 apply Array.ext_getElem?
 intro i
 rw [Array.getElem?_modify]
 by_cases e : g = i
 ·subst e
  obtain ⟨hk1, hk2⟩ := Array.getElem?_eq_some_iff.1 hk
  rw [h]; simp
  apply Array.ext_getElem?
  intro n
  rw [Array.getElem?_setIfInBounds]
  by_cases en : k = n
  ·subst en; simp [hk1, hk2]
  ·simp [en]
 ·simp [e]
theorem set16_self {u : World} {g : Nat} {T : TypeId} {fr : Nat × Nat} (h : u.heap[g]? = some (.cells (quadC noQuad).toArray T fr)) : ((((((((((((((((u.setCell ⟨g, 0, none⟩ (.int .i64 0)).setCell ⟨g, 1, none⟩ (.string ⟨#[]⟩)).setCell ⟨g, 2, none⟩ (.string ⟨#[]⟩)).setCell ⟨g, 3, none⟩ (.string ⟨#[]⟩)).setCell ⟨g, 4, none⟩ (.int .i64 0)).setCell ⟨g, 5, none⟩ (.string ⟨#[]⟩)).setCell ⟨g, 6, none⟩ (.string ⟨#[]⟩)).setCell ⟨g, 7, none⟩ (.string ⟨#[]⟩)).setCell ⟨g, 8, none⟩ (.int .i64 0)).setCell ⟨g, 9, none⟩ (.string ⟨#[]⟩)).setCell ⟨g, 10, none⟩ (.string ⟨#[]⟩)).setCell ⟨g, 11, none⟩ (.string ⟨#[]⟩)).setCell ⟨g, 12, none⟩ (.int .i64 0)).setCell ⟨g, 13, none⟩ (.string ⟨#[]⟩)).setCell ⟨g, 14, none⟩ (.string ⟨#[]⟩)).setCell ⟨g, 15, none⟩ (.string ⟨#[]⟩)) = u := by
 rw [setCell_self h (by rfl), setCell_self h (by rfl), setCell_self h (by rfl), setCell_self h (by rfl), setCell_self h (by rfl), setCell_self h (by rfl), setCell_self h (by rfl), setCell_self h (by rfl), setCell_self h (by rfl), setCell_self h (by rfl), setCell_self h (by rfl), setCell_self h (by rfl), setCell_self h (by rfl), setCell_self h (by rfl), setCell_self h (by rfl), setCell_self h (by rfl)]
def setT (k : Nat) (q : QuadL) (t : TermL) : QuadL := match k with
 | 0 => ⟨t, q.p, q.o, q.g⟩
 | 1 => ⟨q.s, t, q.o, q.g⟩
 | 2 => ⟨q.s, q.p, t, q.g⟩
 | _ => ⟨q.s, q.p, q.o, t⟩
theorem StMem.putN {w wr : World} {q : QuadL} (h : StMem w wr q) (t : TermL) (k : Nat) (hk : k < 4) : StMem w ((((wr.setCell ⟨w.heap.size + 1 + 1, k * 4, none⟩ (.int .i64 t.kind)).setCell ⟨w.heap.size + 1 + 1, k * 4 + 1, none⟩ (.string (B t.text))).setCell ⟨w.heap.size + 1 + 1, k * 4 + 2, none⟩ (.string (B t.type))).setCell ⟨w.heap.size + 1 + 1, k * 4 + 3, none⟩ (.string (B t.lang))) (setT k q t) :=
 match k, hk with
 | 0, _ => h.put0 t
 | 1, _ => h.put1 t
 | 2, _ => h.put2 t
 | 3, _ => h.put3 t
theorem StMem.cellN {w wr : World} {q : QuadL} (h : StMem w wr q) (k : Nat) (hk : k < 4) : (∃ x0 x1 x2 x3, wr.cell? ⟨w.heap.size + 1 + 1, k * 4, none⟩ = some x0 /\ wr.cell? ⟨w.heap.size + 1 + 1, k * 4 + 1, none⟩ = some x1 /\ wr.cell? ⟨w.heap.size + 1 + 1, k * 4 + 2, none⟩ = some x2 /\ wr.cell? ⟨w.heap.size + 1 + 1, k * 4 + 3, none⟩ = some x3) /\
  wr.frozen? ⟨w.heap.size + 1 + 1, k * 4, none⟩ = false /\ wr.frozen? ⟨w.heap.size + 1 + 1, k * 4 + 1, none⟩ = false /\ wr.frozen? ⟨w.heap.size + 1 + 1, k * 4 + 2, none⟩ = false /\ wr.frozen? ⟨w.heap.size + 1 + 1, k * 4 + 3, none⟩ = false := by
 have hl : (quadC q).length = 16 := quadC_len q
 exact ⟨⟨_, _, _, _, h.q.cell (j := k * 4) (by omega), h.q.cell (j := k * 4 + 1) (by omega), h.q.cell (j := k * 4 + 2) (by omega), h.q.cell (j := k * 4 + 3) (by omega)⟩, h.q.free (j := k * 4) (by omega), h.q.free (j := k * 4 + 1) (by omega), h.q.free (j := k * 4 + 2) (by omega), h.q.free (j := k * 4 + 3) (by omega)⟩
theorem StMem.done {w u : World} {x : QuadL} (h : StMem w u x) :
  (((u.setRow w.heap.size (quadC x).toArray).setCell ⟨w.heap.size + 1, 0, none⟩ (.int .i64 0)).setCell ⟨w.heap.size + 1, 1, none⟩ (.int .i64 0)).rangeAt w.heap.size 0 (quadC x) /\
  (((u.setRow w.heap.size (quadC x).toArray).setCell ⟨w.heap.size + 1, 0, none⟩ (.int .i64 0)).setCell ⟨w.heap.size + 1, 1, none⟩ (.int .i64 0)).cell? ⟨w.heap.size + 1, 0, none⟩ = some (.int .i64 0) /\
  (((u.setRow w.heap.size (quadC x).toArray).setCell ⟨w.heap.size + 1, 0, none⟩ (.int .i64 0)).setCell ⟨w.heap.size + 1, 1, none⟩ (.int .i64 0)).cell? ⟨w.heap.size + 1, 1, none⟩ = some (.int .i64 0) /\
  Below w.heap.size w (((u.setRow w.heap.size (quadC x).toArray).setCell ⟨w.heap.size + 1, 0, none⟩ (.int .i64 0)).setCell ⟨w.heap.size + 1, 1, none⟩ (.int .i64 0)) := by
 obtain ⟨c0, c1, f0, f1⟩ := cells_two u w.heap.size (quadC x).toArray h.f (by omega)
 have hr : RowAt (u.setRow w.heap.size (quadC x).toArray) (w.heap.size + 1) [.int .i64 0, .int .i64 0] := fun j hj => by
  match j, hj with
  | 0, _ => exact ⟨c0, f0⟩
  | 1, _ => exact ⟨c1, f1⟩
 have hf := (hr.set (j := 0) (by simp) (.int .i64 0)).set (j := 1) (by simp) (.int .i64 0)
 refine ⟨?_, hf.cell (j := 0) (by simp), hf.cell (j := 1) (by simp), ((below_row h.b (Nat.le_refl _) _).setCell (by simp) _).setCell (by simp) _⟩
 have h16 := row16 x h.z
 intro k v hk
 rw [World.cell?_setCell_other _ _ _ _ (by simp), World.cell?_setCell_other _ _ _ _ (by simp)]
 exact h16 k v hk
def afterLoopC : Code -> Option Code
 | .seq a b => match firstLoopC a with
  | some _ => (match afterLoopC a with
   | some c => some (.seq c b)
   | none => some b)
  | none => afterLoopC b
 | .block _ c => afterLoopC c
 | .scope c => afterLoopC c
 | _ => none
noncomputable def stRest : Code := ((Tryz.f63.body.bind afterLoopC).getD .skip)
end Go.Proofs.YtdegonmkikfghaaGreatDoor
namespace Go.Proofs.YtdegonmkikfghaaGreatDoor
open Go.RowKit
set_option maxRecDepth 100000
set_option maxHeartbeats 2000000 in
theorem stA_n (l : List UInt8) (i at0 j : Nat) (w wr : World) (q : QuadL) (z : Int) {u5 u10 u11 u12 u14 u15 u16 u17 u18 u19 u20 u21 u22 u23 u24 u25 u26 u27 u28 u29 u30 u31 u32 u33 u34 u35 u36 u37 u38 u39 u40 u41 u42 u43 u44 u45 u46 u47 u48 u49 u50 u51 u52 u53 u54 u55 u56 u57 u58 u59 u60 : Value} {REL K : Act -> World -> Prop} (hat : at0 <= l.length) (hj : j <= l.length) (hl : l.length <= 4194304) (HJ : Hid (blkF l at0 = j)) (HM : Hid (StMem w wr q)) (sg : List UInt8) (hsg : sg.length <= 100) (sk : wr.cell? ⟨w.heap.size + 1 + 1 + 1, z.toNat, none⟩ = some (.string (B sg))) (h3 : (z == 3) = false) (h0 : 0 <= z) (h4 : z < 3) (hsb : seesB l j sg = false) (HE : Hid (stmtF l i = .inr (j, 90))) :
  Code.wp Tryz.prog stBody (Exit.then REL (Exit.inBlock 0 (Exit.then K (bodyPost Tryz.prog Tryz.f63 fun e w' => e = .returned (stmtV (stmtF l i)) /\ Below w.heap.size w w')))) { tmps := #[.string (B l), .int .i64 (at0 : Int), undef, undef, .pointer (some ⟨w.heap.size, 0, none⟩), u5, .pointer (some ⟨w.heap.size + 1, 0, none⟩), .pointer (some ⟨w.heap.size + 1 + 1, 0, none⟩), .pointer (some ⟨w.heap.size + 1 + 1 + 1, 0, none⟩), .int .i64 z, u10, u11, u12, .agg #[.string ⟨#[60, 95]⟩, .string ⟨#[60]⟩, .string ⟨#[60, 95, 34]⟩, .string ⟨#[60, 95]⟩], u14, u15, u16, u17, u18, u19, u20, u21, u22, u23, u24, u25, u26, u27, u28, u29, u30, u31, u32, u33, u34, u35, u36, u37, u38, u39, u40, u41, u42, u43, u44, u45, u46, u47, u48, u49, u50, u51, u52, u53, u54, u55, u56, u57, u58, u59, u60, undef, undef, undef, undef, undef, undef, undef, undef, undef, undef, undef, undef, undef, undef, undef, undef, undef, undef, undef, undef, undef, undef, undef, undef, undef, undef, undef, undef], defers := [] } wr := by
 have BK := Lib.hid (fun u => refBlanks_to HJ.out u hat (by omega))
 clear HJ
 have ST := Lib.hid (fun u => refStarts_to hsb u hj (by omega) hsg)
 clear hsb hsg
 have h4d : decide (z < 4) = true := decide_eq_true (by omega)
 have h4b : z < 4 := by omega
 conv => arg 2; whnf
 go_wp2_with (first
  | (go_at_call 62; (with_reducible refine (BK.out _).mono ?_); rintro e w2 ⟨rfl, rfl⟩)
  | (go_at_call 89; (with_reducible refine (ST.out _).mono ?_); rintro e w3 ⟨rfl, hb3⟩; have HM3 := Lib.hid (HM.out.below hb3); have hx := row_two HM3.out.f; have c0 := hx.1; have c1 := hx.2.1; have f0 := hx.2.2.1; have f1 := hx.2.2.2.1; have hg := hx.2.2.2.2; clear hx; have lt0 := HM3.out.ltz; have lt2 := HM3.out.lt; have lt3 := HM3.out.lts; clear hb3)
  | (refine wpList_store_same rfl (.tmp 4) (.tmp 42) rfl _ rfl noQuad rfl ?T1 ?hg1 ?_; (case hg1 => exact HM3.out.z)))
 obtain ⟨r0, r1, r2, r3⟩ := HM3.out.fin (j : Int) 90
 refine bodyPost_ret (results_st _ _ _ _ _ _ _ _ rfl rfl rfl r0 r1 r2) rfl ?_
 exact ⟨by rw [HE.out]; rfl, r3⟩
set_option maxHeartbeats 2000000 in
theorem stA_e (l : List UInt8) (i at0 j : Nat) (w wr : World) (q : QuadL) (z : Int) {u5 u10 u11 u12 u14 u15 u16 u17 u18 u19 u20 u21 u22 u23 u24 u25 u26 u27 u28 u29 u30 u31 u32 u33 u34 u35 u36 u37 u38 u39 u40 u41 u42 u43 u44 u45 u46 u47 u48 u49 u50 u51 u52 u53 u54 u55 u56 u57 u58 u59 u60 : Value} {REL K : Act -> World -> Prop} (hat : at0 <= l.length) (hj : j <= l.length) (hl : l.length <= 4194304) (HJ : Hid (blkF l at0 = j)) (HM : Hid (StMem w wr q)) (sg : List UInt8) (hsg : sg.length <= 100) (sk : wr.cell? ⟨w.heap.size + 1 + 1 + 1, z.toNat, none⟩ = some (.string (B sg))) (h3 : (z == 3) = true) (h0 : 0 <= z) (h4 : z < 4) (hlt : ¬ j < l.length) (hsb : seesB l j sg = false) (HE : Hid (stmtF l i = .inr (j, 90))) :
  Code.wp Tryz.prog stBody (Exit.then REL (Exit.inBlock 0 (Exit.then K (bodyPost Tryz.prog Tryz.f63 fun e w' => e = .returned (stmtV (stmtF l i)) /\ Below w.heap.size w w')))) { tmps := #[.string (B l), .int .i64 (at0 : Int), undef, undef, .pointer (some ⟨w.heap.size, 0, none⟩), u5, .pointer (some ⟨w.heap.size + 1, 0, none⟩), .pointer (some ⟨w.heap.size + 1 + 1, 0, none⟩), .pointer (some ⟨w.heap.size + 1 + 1 + 1, 0, none⟩), .int .i64 z, u10, u11, u12, .agg #[.string ⟨#[60, 95]⟩, .string ⟨#[60]⟩, .string ⟨#[60, 95, 34]⟩, .string ⟨#[60, 95]⟩], u14, u15, u16, u17, u18, u19, u20, u21, u22, u23, u24, u25, u26, u27, u28, u29, u30, u31, u32, u33, u34, u35, u36, u37, u38, u39, u40, u41, u42, u43, u44, u45, u46, u47, u48, u49, u50, u51, u52, u53, u54, u55, u56, u57, u58, u59, u60, undef, undef, undef, undef, undef, undef, undef, undef, undef, undef, undef, undef, undef, undef, undef, undef, undef, undef, undef, undef, undef, undef, undef, undef, undef, undef, undef, undef], defers := [] } wr := by
 have BK := Lib.hid (fun u => refBlanks_to HJ.out u hat (by omega))
 clear HJ
 have ST := Lib.hid (fun u => refStarts_to hsb u hj (by omega) hsg)
 clear hsb hsg
 have h4d : decide (z < 4) = true := decide_eq_true h4
 have h4b := h4
 have e1' : decide ((j : Int) < (l.length : Int)) = false := decide_eq_false (by omega)
 have e1 : decide (j < l.length) = false := decide_eq_false hlt
 clear hlt
 conv => arg 2; whnf
 go_wp2_with (first
  | (go_at_call 62; (with_reducible refine (BK.out _).mono ?_); rintro e w2 ⟨rfl, rfl⟩)
  | (go_at_call 89; (with_reducible refine (ST.out _).mono ?_); rintro e w3 ⟨rfl, hb3⟩; have HM3 := Lib.hid (HM.out.below hb3); have hx := row_two HM3.out.f; have c0 := hx.1; have c1 := hx.2.1; have f0 := hx.2.2.1; have f1 := hx.2.2.2.1; have hg := hx.2.2.2.2; clear hx; have lt0 := HM3.out.ltz; have lt2 := HM3.out.lt; have lt3 := HM3.out.lts; clear hb3)
  | (refine wpList_store_same rfl (.tmp 4) (.tmp 42) rfl _ rfl noQuad rfl ?T1 ?hg1 ?_; (case hg1 => exact HM3.out.z)))
 obtain ⟨r0, r1, r2, r3⟩ := HM3.out.fin (j : Int) 90
 refine bodyPost_ret (results_st _ _ _ _ _ _ _ _ rfl rfl rfl r0 r1 r2) rfl ?_
 exact ⟨by rw [HE.out]; rfl, r3⟩
set_option maxHeartbeats 2000000 in
theorem stA_d (l : List UInt8) (i at0 j : Nat) (w wr : World) (q : QuadL) (z : Int) {u5 u10 u11 u12 u14 u15 u16 u17 u18 u19 u20 u21 u22 u23 u24 u25 u26 u27 u28 u29 u30 u31 u32 u33 u34 u35 u36 u37 u38 u39 u40 u41 u42 u43 u44 u45 u46 u47 u48 u49 u50 u51 u52 u53 u54 u55 u56 u57 u58 u59 u60 : Value} {REL K : Act -> World -> Prop} (hat : at0 <= l.length) (hj : j <= l.length) (hl : l.length <= 4194304) (HJ : Hid (blkF l at0 = j)) (HM : Hid (StMem w wr q)) (sg : List UInt8) (hsg : sg.length <= 100) (sk : wr.cell? ⟨w.heap.size + 1 + 1 + 1, z.toNat, none⟩ = some (.string (B sg))) (h3 : (z == 3) = true) (h0 : 0 <= z) (h4 : z < 4) (hlt : j < l.length) (h46 : l[j] ≠ 46) (hsb : seesB l j sg = false) (HE : Hid (stmtF l i = .inr (j, 90))) :
  Code.wp Tryz.prog stBody (Exit.then REL (Exit.inBlock 0 (Exit.then K (bodyPost Tryz.prog Tryz.f63 fun e w' => e = .returned (stmtV (stmtF l i)) /\ Below w.heap.size w w')))) { tmps := #[.string (B l), .int .i64 (at0 : Int), undef, undef, .pointer (some ⟨w.heap.size, 0, none⟩), u5, .pointer (some ⟨w.heap.size + 1, 0, none⟩), .pointer (some ⟨w.heap.size + 1 + 1, 0, none⟩), .pointer (some ⟨w.heap.size + 1 + 1 + 1, 0, none⟩), .int .i64 z, u10, u11, u12, .agg #[.string ⟨#[60, 95]⟩, .string ⟨#[60]⟩, .string ⟨#[60, 95, 34]⟩, .string ⟨#[60, 95]⟩], u14, u15, u16, u17, u18, u19, u20, u21, u22, u23, u24, u25, u26, u27, u28, u29, u30, u31, u32, u33, u34, u35, u36, u37, u38, u39, u40, u41, u42, u43, u44, u45, u46, u47, u48, u49, u50, u51, u52, u53, u54, u55, u56, u57, u58, u59, u60, undef, undef, undef, undef, undef, undef, undef, undef, undef, undef, undef, undef, undef, undef, undef, undef, undef, undef, undef, undef, undef, undef, undef, undef, undef, undef, undef, undef], defers := [] } wr := by
 have BK := Lib.hid (fun u => refBlanks_to HJ.out u hat (by omega))
 clear HJ
 have ST := Lib.hid (fun u => refStarts_to hsb u hj (by omega) hsg)
 clear hsb hsg
 have h4d : decide (z < 4) = true := decide_eq_true h4
 have h4b := h4
 have e1' : decide ((j : Int) < (l.length : Int)) = true := decide_eq_true (by omega)
 have e1 : decide (j < l.length) = true := decide_eq_true hlt
 have j0 : 0 <= (j : Int) := by omega
 have j1 : (j : Int) < (l.length : Int) := by omega
 have e2 : ((l[j].toNat : Int) == 46) = false := byte_ne (d := 46) h46
 clear h46
 conv => arg 2; whnf
 go_wp2_with (first
  | (go_at_call 62; (with_reducible refine (BK.out _).mono ?_); rintro e w2 ⟨rfl, rfl⟩)
  | (go_at_call 89; (with_reducible refine (ST.out _).mono ?_); rintro e w3 ⟨rfl, hb3⟩; have HM3 := Lib.hid (HM.out.below hb3); have hx := row_two HM3.out.f; have c0 := hx.1; have c1 := hx.2.1; have f0 := hx.2.2.1; have f1 := hx.2.2.2.1; have hg := hx.2.2.2.2; clear hx; have lt0 := HM3.out.ltz; have lt2 := HM3.out.lt; have lt3 := HM3.out.lts; clear hb3)
  | (refine wpList_store_same rfl (.tmp 4) (.tmp 42) rfl _ rfl noQuad rfl ?T1 ?hg1 ?_; (case hg1 => exact HM3.out.z)))
 obtain ⟨r0, r1, r2, r3⟩ := HM3.out.fin (j : Int) 90
 refine bodyPost_ret (results_st _ _ _ _ _ _ _ _ rfl rfl rfl r0 r1 r2) rfl ?_
 exact ⟨by rw [HE.out]; rfl, r3⟩
set_option maxHeartbeats 4000000 in
theorem stB_n (p : Nat) (c : Int) (e0 : (c != 0) = true) (l : List UInt8) (i at0 j : Nat) (w wr : World) (q : QuadL) (z : Int) {u5 u10 u11 u12 u14 u15 u16 u17 u18 u19 u20 u21 u22 u23 u24 u25 u26 u27 u28 u29 u30 u31 u32 u33 u34 u35 u36 u37 u38 u39 u40 u41 u42 u43 u44 u45 u46 u47 u48 u49 u50 u51 u52 u53 u54 u55 u56 u57 u58 u59 u60 : Value} {REL K : Act -> World -> Prop} (hat : at0 <= l.length) (hj : j <= l.length) (hl : l.length <= 4194304) (HJ : Hid (blkF l at0 = j)) (HM : Hid (StMem w wr q)) (sg : List UInt8) (hsg : sg.length <= 100) (sk : wr.cell? ⟨w.heap.size + 1 + 1 + 1, z.toNat, none⟩ = some (.string (B sg))) (h3 : (z == 3) = false) (h0 : 0 <= z) (h4 : z < 3) (hsb : seesB l j sg = true) (hjl : j < l.length) (hq : termAt l j = .inr (p, c)) (HE : Hid (stmtF l i = .inr (p, c))) :
  Code.wp Tryz.prog stBody (Exit.then REL (Exit.inBlock 0 (Exit.then K (bodyPost Tryz.prog Tryz.f63 fun e w' => e = .returned (stmtV (stmtF l i)) /\ Below w.heap.size w w')))) { tmps := #[.string (B l), .int .i64 (at0 : Int), undef, undef, .pointer (some ⟨w.heap.size, 0, none⟩), u5, .pointer (some ⟨w.heap.size + 1, 0, none⟩), .pointer (some ⟨w.heap.size + 1 + 1, 0, none⟩), .pointer (some ⟨w.heap.size + 1 + 1 + 1, 0, none⟩), .int .i64 z, u10, u11, u12, .agg #[.string ⟨#[60, 95]⟩, .string ⟨#[60]⟩, .string ⟨#[60, 95, 34]⟩, .string ⟨#[60, 95]⟩], u14, u15, u16, u17, u18, u19, u20, u21, u22, u23, u24, u25, u26, u27, u28, u29, u30, u31, u32, u33, u34, u35, u36, u37, u38, u39, u40, u41, u42, u43, u44, u45, u46, u47, u48, u49, u50, u51, u52, u53, u54, u55, u56, u57, u58, u59, u60, undef, undef, undef, undef, undef, undef, undef, undef, undef, undef, undef, undef, undef, undef, undef, undef, undef, undef, undef, undef, undef, undef, undef, undef, undef, undef, undef, undef], defers := [] } wr := by
 have BK := Lib.hid (fun u => refBlanks_to HJ.out u hat (by omega))
 clear HJ
 have ST := Lib.hid (fun u => refStarts_to hsb u hj (by omega) hsg)
 have NX := Lib.hid (fun u => refNext7_bad hq u hl hjl)
 clear hsb hsg hq hjl
 have h4d : decide (z < 4) = true := decide_eq_true (by omega)
 have h4b : z < 4 := by omega
 conv => arg 2; whnf
 go_wp2_with (first
  | (go_at_call 62; (with_reducible refine (BK.out _).mono ?_); rintro e w2 ⟨rfl, rfl⟩)
  | (go_at_call 89; (with_reducible refine (ST.out _).mono ?_); rintro e w3 ⟨rfl, hb3⟩; have HM3 := Lib.hid (HM.out.below hb3); clear hb3)
  | (go_at_call 90; (with_reducible refine (NX.out _).mono ?_); rintro e w5 ⟨rfl, hb5⟩; have HM5 := Lib.hid (HM3.out.below hb5); have hx := row_two HM5.out.f; have c0 := hx.1; have c1 := hx.2.1; have f0 := hx.2.2.1; have f1 := hx.2.2.2.1; have hg := hx.2.2.2.2; clear hx; have lt0 := HM5.out.ltz; have lt2 := HM5.out.lt; have lt3 := HM5.out.lts; obtain ⟨pa0, pa1, pa2, pa3, pa4⟩ := far_facts HM5.out.ltz; obtain ⟨pb0, pb1, pb2, pb3, pb4⟩ := far_facts HM5.out.ltf; have hz0 := HM5.out.z; have hx4 := cells16 (range_row hz0); have hx5 := free16 hz0; have z0 := hx4.1; have z1 := hx4.2.1; have z2 := hx4.2.2.1; have z3 := hx4.2.2.2.1; have z4 := hx4.2.2.2.2.1; have z5 := hx4.2.2.2.2.2.1; have z6 := hx4.2.2.2.2.2.2.1; have z7 := hx4.2.2.2.2.2.2.2.1; have z8 := hx4.2.2.2.2.2.2.2.2.1; have z9 := hx4.2.2.2.2.2.2.2.2.2.1; have z10 := hx4.2.2.2.2.2.2.2.2.2.2.1; have z11 := hx4.2.2.2.2.2.2.2.2.2.2.2.1; have z12 := hx4.2.2.2.2.2.2.2.2.2.2.2.2.1; have z13 := hx4.2.2.2.2.2.2.2.2.2.2.2.2.2.1; have z14 := hx4.2.2.2.2.2.2.2.2.2.2.2.2.2.2.1; have z15 := hx4.2.2.2.2.2.2.2.2.2.2.2.2.2.2.2; have y0 := hx5.1; have y1 := hx5.2.1; have y2 := hx5.2.2.1; have y3 := hx5.2.2.2.1; have y4 := hx5.2.2.2.2.1; have y5 := hx5.2.2.2.2.2.1; have y6 := hx5.2.2.2.2.2.2.1; have y7 := hx5.2.2.2.2.2.2.2.1; have y8 := hx5.2.2.2.2.2.2.2.2.1; have y9 := hx5.2.2.2.2.2.2.2.2.2.1; have y10 := hx5.2.2.2.2.2.2.2.2.2.2.1; have y11 := hx5.2.2.2.2.2.2.2.2.2.2.2.1; have y12 := hx5.2.2.2.2.2.2.2.2.2.2.2.2.1; have y13 := hx5.2.2.2.2.2.2.2.2.2.2.2.2.2.1; have y14 := hx5.2.2.2.2.2.2.2.2.2.2.2.2.2.2.1; have y15 := hx5.2.2.2.2.2.2.2.2.2.2.2.2.2.2.2; clear hx4 hx5 hz0; simp only [Nat.zero_add] at z1 z2 z3 z4 z5 z6 z7 z8 z9 z10 z11 z12 z13 z14 z15; clear hb5))
 go_region
 go_wp2_with fail
 rw [set16_self HM5.out.z]
 obtain ⟨r0, r1, r2, r3⟩ := HM5.out.fin (p : Int) c
 have hb := (((Below.refl _ ((w5.setCell ⟨w.heap.size + 1, 0, none⟩ (.int .i64 (p : Int))).setCell ⟨w.heap.size + 1, 1, none⟩ (.int .i64 c))).alloc (Nat.le_refl _) (.cells #[.int .i64 0, .string ⟨#[]⟩, .string ⟨#[]⟩, .string ⟨#[]⟩] 34)).alloc (by simp) (.cells #[.int .i64 (p : Int), .int .i64 c] 42)).drew
 refine bodyPost_ret (results_st _ _ _ _ _ _ _ _ rfl rfl rfl (range_below r0 hb) ((hb.cell (p := ⟨w.heap.size + 1, 0, none⟩) (World.block_lt_of_cell? _ _ r1)).trans r1) ((hb.cell (p := ⟨w.heap.size + 1, 1, none⟩) (World.block_lt_of_cell? _ _ r2)).trans r2)) rfl ?_
 exact ⟨by rw [HE.out]; rfl, r3.trans (hb.mono r3.size)⟩
set_option maxHeartbeats 4000000 in
theorem stB_d (p : Nat) (c : Int) (e0 : (c != 0) = true) (l : List UInt8) (i at0 j : Nat) (w wr : World) (q : QuadL) (z : Int) {u5 u10 u11 u12 u14 u15 u16 u17 u18 u19 u20 u21 u22 u23 u24 u25 u26 u27 u28 u29 u30 u31 u32 u33 u34 u35 u36 u37 u38 u39 u40 u41 u42 u43 u44 u45 u46 u47 u48 u49 u50 u51 u52 u53 u54 u55 u56 u57 u58 u59 u60 : Value} {REL K : Act -> World -> Prop} (hat : at0 <= l.length) (hj : j <= l.length) (hl : l.length <= 4194304) (HJ : Hid (blkF l at0 = j)) (HM : Hid (StMem w wr q)) (sg : List UInt8) (hsg : sg.length <= 100) (sk : wr.cell? ⟨w.heap.size + 1 + 1 + 1, z.toNat, none⟩ = some (.string (B sg))) (h3 : (z == 3) = true) (h0 : 0 <= z) (h4 : z < 4) (hlt : j < l.length) (h46 : l[j] ≠ 46) (hsb : seesB l j sg = true) (hjl : j < l.length) (hq : termAt l j = .inr (p, c)) (HE : Hid (stmtF l i = .inr (p, c))) :
  Code.wp Tryz.prog stBody (Exit.then REL (Exit.inBlock 0 (Exit.then K (bodyPost Tryz.prog Tryz.f63 fun e w' => e = .returned (stmtV (stmtF l i)) /\ Below w.heap.size w w')))) { tmps := #[.string (B l), .int .i64 (at0 : Int), undef, undef, .pointer (some ⟨w.heap.size, 0, none⟩), u5, .pointer (some ⟨w.heap.size + 1, 0, none⟩), .pointer (some ⟨w.heap.size + 1 + 1, 0, none⟩), .pointer (some ⟨w.heap.size + 1 + 1 + 1, 0, none⟩), .int .i64 z, u10, u11, u12, .agg #[.string ⟨#[60, 95]⟩, .string ⟨#[60]⟩, .string ⟨#[60, 95, 34]⟩, .string ⟨#[60, 95]⟩], u14, u15, u16, u17, u18, u19, u20, u21, u22, u23, u24, u25, u26, u27, u28, u29, u30, u31, u32, u33, u34, u35, u36, u37, u38, u39, u40, u41, u42, u43, u44, u45, u46, u47, u48, u49, u50, u51, u52, u53, u54, u55, u56, u57, u58, u59, u60, undef, undef, undef, undef, undef, undef, undef, undef, undef, undef, undef, undef, undef, undef, undef, undef, undef, undef, undef, undef, undef, undef, undef, undef, undef, undef, undef, undef], defers := [] } wr := by
 have BK := Lib.hid (fun u => refBlanks_to HJ.out u hat (by omega))
 clear HJ
 have ST := Lib.hid (fun u => refStarts_to hsb u hj (by omega) hsg)
 have NX := Lib.hid (fun u => refNext7_bad hq u hl hjl)
 clear hsb hsg hq
 have h4d : decide (z < 4) = true := decide_eq_true h4
 have h4b := h4
 have e1' : decide ((j : Int) < (l.length : Int)) = true := decide_eq_true (by omega)
 have e1 : decide (j < l.length) = true := decide_eq_true hlt
 have j0 : 0 <= (j : Int) := by omega
 have j1 : (j : Int) < (l.length : Int) := by omega
 have e2 : ((l[j].toNat : Int) == 46) = false := byte_ne (d := 46) h46
 clear h46
 conv => arg 2; whnf
 go_wp2_with (first
  | (go_at_call 62; (with_reducible refine (BK.out _).mono ?_); rintro e w2 ⟨rfl, rfl⟩)
  | (go_at_call 89; (with_reducible refine (ST.out _).mono ?_); rintro e w3 ⟨rfl, hb3⟩; have HM3 := Lib.hid (HM.out.below hb3); clear hb3)
  | (go_at_call 90; (with_reducible refine (NX.out _).mono ?_); rintro e w5 ⟨rfl, hb5⟩; have HM5 := Lib.hid (HM3.out.below hb5); have hx := row_two HM5.out.f; have c0 := hx.1; have c1 := hx.2.1; have f0 := hx.2.2.1; have f1 := hx.2.2.2.1; have hg := hx.2.2.2.2; clear hx; have lt0 := HM5.out.ltz; have lt2 := HM5.out.lt; have lt3 := HM5.out.lts; obtain ⟨pa0, pa1, pa2, pa3, pa4⟩ := far_facts HM5.out.ltz; obtain ⟨pb0, pb1, pb2, pb3, pb4⟩ := far_facts HM5.out.ltf; have hz0 := HM5.out.z; have hx4 := cells16 (range_row hz0); have hx5 := free16 hz0; have z0 := hx4.1; have z1 := hx4.2.1; have z2 := hx4.2.2.1; have z3 := hx4.2.2.2.1; have z4 := hx4.2.2.2.2.1; have z5 := hx4.2.2.2.2.2.1; have z6 := hx4.2.2.2.2.2.2.1; have z7 := hx4.2.2.2.2.2.2.2.1; have z8 := hx4.2.2.2.2.2.2.2.2.1; have z9 := hx4.2.2.2.2.2.2.2.2.2.1; have z10 := hx4.2.2.2.2.2.2.2.2.2.2.1; have z11 := hx4.2.2.2.2.2.2.2.2.2.2.2.1; have z12 := hx4.2.2.2.2.2.2.2.2.2.2.2.2.1; have z13 := hx4.2.2.2.2.2.2.2.2.2.2.2.2.2.1; have z14 := hx4.2.2.2.2.2.2.2.2.2.2.2.2.2.2.1; have z15 := hx4.2.2.2.2.2.2.2.2.2.2.2.2.2.2.2; have y0 := hx5.1; have y1 := hx5.2.1; have y2 := hx5.2.2.1; have y3 := hx5.2.2.2.1; have y4 := hx5.2.2.2.2.1; have y5 := hx5.2.2.2.2.2.1; have y6 := hx5.2.2.2.2.2.2.1; have y7 := hx5.2.2.2.2.2.2.2.1; have y8 := hx5.2.2.2.2.2.2.2.2.1; have y9 := hx5.2.2.2.2.2.2.2.2.2.1; have y10 := hx5.2.2.2.2.2.2.2.2.2.2.1; have y11 := hx5.2.2.2.2.2.2.2.2.2.2.2.1; have y12 := hx5.2.2.2.2.2.2.2.2.2.2.2.2.1; have y13 := hx5.2.2.2.2.2.2.2.2.2.2.2.2.2.1; have y14 := hx5.2.2.2.2.2.2.2.2.2.2.2.2.2.2.1; have y15 := hx5.2.2.2.2.2.2.2.2.2.2.2.2.2.2.2; clear hx4 hx5 hz0; simp only [Nat.zero_add] at z1 z2 z3 z4 z5 z6 z7 z8 z9 z10 z11 z12 z13 z14 z15; clear hb5))
 go_region
 go_wp2_with fail
 rw [set16_self HM5.out.z]
 obtain ⟨r0, r1, r2, r3⟩ := HM5.out.fin (p : Int) c
 have hb := (((Below.refl _ ((w5.setCell ⟨w.heap.size + 1, 0, none⟩ (.int .i64 (p : Int))).setCell ⟨w.heap.size + 1, 1, none⟩ (.int .i64 c))).alloc (Nat.le_refl _) (.cells #[.int .i64 0, .string ⟨#[]⟩, .string ⟨#[]⟩, .string ⟨#[]⟩] 34)).alloc (by simp) (.cells #[.int .i64 (p : Int), .int .i64 c] 42)).drew
 refine bodyPost_ret (results_st _ _ _ _ _ _ _ _ rfl rfl rfl (range_below r0 hb) ((hb.cell (p := ⟨w.heap.size + 1, 0, none⟩) (World.block_lt_of_cell? _ _ r1)).trans r1) ((hb.cell (p := ⟨w.heap.size + 1, 1, none⟩) (World.block_lt_of_cell? _ _ r2)).trans r2)) rfl ?_
 exact ⟨by rw [HE.out]; rfl, r3.trans (hb.mono r3.size)⟩
end Go.Proofs.YtdegonmkikfghaaGreatDoor
namespace Go.Proofs.YtdegonmkikfghaaGreatDoor
open Go.RowKit
set_option maxRecDepth 100000
set_option maxHeartbeats 4000000 in
theorem stC_n (t : TermL) (n : Nat) (l : List UInt8) (i at0 j : Nat) (w wr : World) (q : QuadL) (z : Int) {u5 u10 u11 u12 u14 u15 u16 u17 u18 u19 u20 u21 u22 u23 u24 u25 u26 u27 u28 u29 u30 u31 u32 u33 u34 u35 u36 u37 u38 u39 u40 u41 u42 u43 u44 u45 u46 u47 u48 u49 u50 u51 u52 u53 u54 u55 u56 u57 u58 u59 u60 : Value} {REL K : Act -> World -> Prop} (hat : at0 <= l.length) (hj : j <= l.length) (hl : l.length <= 4194304) (HJ : Hid (blkF l at0 = j)) (HM : Hid (StMem w wr q)) (sg : List UInt8) (hsg : sg.length <= 100) (sk : wr.cell? ⟨w.heap.size + 1 + 1 + 1, z.toNat, none⟩ = some (.string (B sg))) (h3 : (z == 3) = false) (h0 : 0 <= z) (h4 : z < 3) (hsb : seesB l j sg = true) (hjl : j < l.length) (hq : termAt l j = .inl (t, n)) (hR : ∀ (v5 v10 v11 v12 v14 v15 v16 v17 v18 v19 v20 v21 v22 v23 v24 v25 v26 v27 v28 v29 v30 v31 v32 v33 v34 v35 v36 v37 v38 v39 v40 v41 v42 v43 v44 v45 v46 v47 v48 v49 v50 v51 v52 v53 v54 v55 v56 v57 v58 v59 v60 : Value) (W : World), StMem w W (setT z.toNat q t) -> REL { tmps := #[.string (B l), .int .i64 (n : Int), undef, undef, .pointer (some ⟨w.heap.size, 0, none⟩), v5, .pointer (some ⟨w.heap.size + 1, 0, none⟩), .pointer (some ⟨w.heap.size + 1 + 1, 0, none⟩), .pointer (some ⟨w.heap.size + 1 + 1 + 1, 0, none⟩), .int .i64 (z + 1), v10, v11, v12, .agg #[.string ⟨#[60, 95]⟩, .string ⟨#[60]⟩, .string ⟨#[60, 95, 34]⟩, .string ⟨#[60, 95]⟩], v14, v15, v16, v17, v18, v19, v20, v21, v22, v23, v24, v25, v26, v27, v28, v29, v30, v31, v32, v33, v34, v35, v36, v37, v38, v39, v40, v41, v42, v43, v44, v45, v46, v47, v48, v49, v50, v51, v52, v53, v54, v55, v56, v57, v58, v59, v60, undef, undef, undef, undef, undef, undef, undef, undef, undef, undef, undef, undef, undef, undef, undef, undef, undef, undef, undef, undef, undef, undef, undef, undef, undef, undef, undef, undef], defers := [] } W) :
  Code.wp Tryz.prog stBody (Exit.then REL (Exit.inBlock 0 (Exit.then K (bodyPost Tryz.prog Tryz.f63 fun e w' => e = .returned (stmtV (stmtF l i)) /\ Below w.heap.size w w')))) { tmps := #[.string (B l), .int .i64 (at0 : Int), undef, undef, .pointer (some ⟨w.heap.size, 0, none⟩), u5, .pointer (some ⟨w.heap.size + 1, 0, none⟩), .pointer (some ⟨w.heap.size + 1 + 1, 0, none⟩), .pointer (some ⟨w.heap.size + 1 + 1 + 1, 0, none⟩), .int .i64 z, u10, u11, u12, .agg #[.string ⟨#[60, 95]⟩, .string ⟨#[60]⟩, .string ⟨#[60, 95, 34]⟩, .string ⟨#[60, 95]⟩], u14, u15, u16, u17, u18, u19, u20, u21, u22, u23, u24, u25, u26, u27, u28, u29, u30, u31, u32, u33, u34, u35, u36, u37, u38, u39, u40, u41, u42, u43, u44, u45, u46, u47, u48, u49, u50, u51, u52, u53, u54, u55, u56, u57, u58, u59, u60, undef, undef, undef, undef, undef, undef, undef, undef, undef, undef, undef, undef, undef, undef, undef, undef, undef, undef, undef, undef, undef, undef, undef, undef, undef, undef, undef, undef], defers := [] } wr := by
 have BK := Lib.hid (fun u => refBlanks_to HJ.out u hat (by omega))
 clear HJ
 have ST := Lib.hid (fun u => refStarts_to hsb u hj (by omega) hsg)
 have NX := Lib.hid (fun u => refNext7_ok hq u hl hjl)
 have HR := Lib.hid hR
 clear hsb hsg hq hR hjl
 have h4d : decide (z < 4) = true := decide_eq_true (by omega)
 have h4b : z < 4 := by omega
 have hzk : z.toNat < 4 := by omega
 have hz0 : 0 <= z + 1 := by omega
 have W1 : IntKind.i64.wrap (z + 1) = z + 1 := IntWalk.i64_in _ (by omega)
 conv => arg 2; whnf
 go_wp2_with (first
  | (go_at_call 62; (with_reducible refine (BK.out _).mono ?_); rintro e w2 ⟨rfl, rfl⟩)
  | (go_at_call 89; (with_reducible refine (ST.out _).mono ?_); rintro e w3 ⟨rfl, hb3⟩; have HM3 := Lib.hid (HM.out.below hb3); clear hb3)
  | (go_at_call 90; (with_reducible refine (NX.out _).mono ?_); rintro e w5 ⟨rfl, hb5⟩; have HM5 := Lib.hid (HM3.out.below hb5); obtain ⟨⟨x0, x1, x2, x3, hx0, hx1, hx2, hx3⟩, y0, y1, y2, y3⟩ := HM5.out.cellN z.toNat (by omega); have lt2 := HM5.out.lt; obtain ⟨pa0, pa1, pa2, pa3, pa4⟩ := far_facts HM5.out.lt; obtain ⟨pb0, pb1, pb2, pb3, pb4⟩ := far_facts HM5.out.ltf; clear hb5))
 refine HR.out _ _ _ _ _ _ _ _ _ _ _ _ _ _ _ _ _ _ _ _ _ _ _ _ _ _ _ _ _ _ _ _ _ _ _ _ _ _ _ _ _ _ _ _ _ _ _ _ _ _ _ _ ?_
 exact ((HM5.out.putN t z.toNat hzk).below ((Below.refl _ _).alloc (Nat.le_refl _) (.cells #[.int .i64 t.kind, .string (B t.text), .string (B t.type), .string (B t.lang)] 34))).below ((Below.refl _ _).alloc (Nat.le_refl _) (.cells #[.int .i64 0, .int .i64 0] 42))
set_option maxHeartbeats 4000000 in
theorem stC_d (t : TermL) (n : Nat) (l : List UInt8) (i at0 j : Nat) (w wr : World) (q : QuadL) (z : Int) {u5 u10 u11 u12 u14 u15 u16 u17 u18 u19 u20 u21 u22 u23 u24 u25 u26 u27 u28 u29 u30 u31 u32 u33 u34 u35 u36 u37 u38 u39 u40 u41 u42 u43 u44 u45 u46 u47 u48 u49 u50 u51 u52 u53 u54 u55 u56 u57 u58 u59 u60 : Value} {REL K : Act -> World -> Prop} (hat : at0 <= l.length) (hj : j <= l.length) (hl : l.length <= 4194304) (HJ : Hid (blkF l at0 = j)) (HM : Hid (StMem w wr q)) (sg : List UInt8) (hsg : sg.length <= 100) (sk : wr.cell? ⟨w.heap.size + 1 + 1 + 1, z.toNat, none⟩ = some (.string (B sg))) (h3 : (z == 3) = true) (h0 : 0 <= z) (h4 : z < 4) (hlt : j < l.length) (h46 : l[j] ≠ 46) (hsb : seesB l j sg = true) (hjl : j < l.length) (hq : termAt l j = .inl (t, n)) (hR : ∀ (v5 v10 v11 v12 v14 v15 v16 v17 v18 v19 v20 v21 v22 v23 v24 v25 v26 v27 v28 v29 v30 v31 v32 v33 v34 v35 v36 v37 v38 v39 v40 v41 v42 v43 v44 v45 v46 v47 v48 v49 v50 v51 v52 v53 v54 v55 v56 v57 v58 v59 v60 : Value) (W : World), StMem w W (setT z.toNat q t) -> REL { tmps := #[.string (B l), .int .i64 (n : Int), undef, undef, .pointer (some ⟨w.heap.size, 0, none⟩), v5, .pointer (some ⟨w.heap.size + 1, 0, none⟩), .pointer (some ⟨w.heap.size + 1 + 1, 0, none⟩), .pointer (some ⟨w.heap.size + 1 + 1 + 1, 0, none⟩), .int .i64 (z + 1), v10, v11, v12, .agg #[.string ⟨#[60, 95]⟩, .string ⟨#[60]⟩, .string ⟨#[60, 95, 34]⟩, .string ⟨#[60, 95]⟩], v14, v15, v16, v17, v18, v19, v20, v21, v22, v23, v24, v25, v26, v27, v28, v29, v30, v31, v32, v33, v34, v35, v36, v37, v38, v39, v40, v41, v42, v43, v44, v45, v46, v47, v48, v49, v50, v51, v52, v53, v54, v55, v56, v57, v58, v59, v60, undef, undef, undef, undef, undef, undef, undef, undef, undef, undef, undef, undef, undef, undef, undef, undef, undef, undef, undef, undef, undef, undef, undef, undef, undef, undef, undef, undef], defers := [] } W) :
  Code.wp Tryz.prog stBody (Exit.then REL (Exit.inBlock 0 (Exit.then K (bodyPost Tryz.prog Tryz.f63 fun e w' => e = .returned (stmtV (stmtF l i)) /\ Below w.heap.size w w')))) { tmps := #[.string (B l), .int .i64 (at0 : Int), undef, undef, .pointer (some ⟨w.heap.size, 0, none⟩), u5, .pointer (some ⟨w.heap.size + 1, 0, none⟩), .pointer (some ⟨w.heap.size + 1 + 1, 0, none⟩), .pointer (some ⟨w.heap.size + 1 + 1 + 1, 0, none⟩), .int .i64 z, u10, u11, u12, .agg #[.string ⟨#[60, 95]⟩, .string ⟨#[60]⟩, .string ⟨#[60, 95, 34]⟩, .string ⟨#[60, 95]⟩], u14, u15, u16, u17, u18, u19, u20, u21, u22, u23, u24, u25, u26, u27, u28, u29, u30, u31, u32, u33, u34, u35, u36, u37, u38, u39, u40, u41, u42, u43, u44, u45, u46, u47, u48, u49, u50, u51, u52, u53, u54, u55, u56, u57, u58, u59, u60, undef, undef, undef, undef, undef, undef, undef, undef, undef, undef, undef, undef, undef, undef, undef, undef, undef, undef, undef, undef, undef, undef, undef, undef, undef, undef, undef, undef], defers := [] } wr := by
 have BK := Lib.hid (fun u => refBlanks_to HJ.out u hat (by omega))
 clear HJ
 have ST := Lib.hid (fun u => refStarts_to hsb u hj (by omega) hsg)
 have NX := Lib.hid (fun u => refNext7_ok hq u hl hjl)
 have HR := Lib.hid hR
 clear hsb hsg hq hR
 have h4d : decide (z < 4) = true := decide_eq_true h4
 have h4b := h4
 have e1' : decide ((j : Int) < (l.length : Int)) = true := decide_eq_true (by omega)
 have e1 : decide (j < l.length) = true := decide_eq_true hlt
 have j0 : 0 <= (j : Int) := by omega
 have j1 : (j : Int) < (l.length : Int) := by omega
 have e2 : ((l[j].toNat : Int) == 46) = false := byte_ne (d := 46) h46
 clear h46
 have hzk : z.toNat < 4 := by omega
 have hz0 : 0 <= z + 1 := by omega
 have W1 : IntKind.i64.wrap (z + 1) = z + 1 := IntWalk.i64_in _ (by omega)
 conv => arg 2; whnf
 go_wp2_with (first
  | (go_at_call 62; (with_reducible refine (BK.out _).mono ?_); rintro e w2 ⟨rfl, rfl⟩)
  | (go_at_call 89; (with_reducible refine (ST.out _).mono ?_); rintro e w3 ⟨rfl, hb3⟩; have HM3 := Lib.hid (HM.out.below hb3); clear hb3)
  | (go_at_call 90; (with_reducible refine (NX.out _).mono ?_); rintro e w5 ⟨rfl, hb5⟩; have HM5 := Lib.hid (HM3.out.below hb5); obtain ⟨⟨x0, x1, x2, x3, hx0, hx1, hx2, hx3⟩, y0, y1, y2, y3⟩ := HM5.out.cellN z.toNat (by omega); have lt2 := HM5.out.lt; obtain ⟨pa0, pa1, pa2, pa3, pa4⟩ := far_facts HM5.out.lt; obtain ⟨pb0, pb1, pb2, pb3, pb4⟩ := far_facts HM5.out.ltf; clear hb5))
 refine HR.out _ _ _ _ _ _ _ _ _ _ _ _ _ _ _ _ _ _ _ _ _ _ _ _ _ _ _ _ _ _ _ _ _ _ _ _ _ _ _ _ _ _ _ _ _ _ _ _ _ _ _ _ ?_
 exact ((HM5.out.putN t z.toNat hzk).below ((Below.refl _ _).alloc (Nat.le_refl _) (.cells #[.int .i64 t.kind, .string (B t.text), .string (B t.type), .string (B t.lang)] 34))).below ((Below.refl _ _).alloc (Nat.le_refl _) (.cells #[.int .i64 0, .int .i64 0] 42))
set_option maxHeartbeats 2000000 in
theorem stX_3 (l : List UInt8) (i at0 j : Nat) (w wr : World) (q : QuadL) (z : Int) {u5 u10 u11 u12 u14 u15 u16 u17 u18 u19 u20 u21 u22 u23 u24 u25 u26 u27 u28 u29 u30 u31 u32 u33 u34 u35 u36 u37 u38 u39 u40 u41 u42 u43 u44 u45 u46 u47 u48 u49 u50 u51 u52 u53 u54 u55 u56 u57 u58 u59 u60 : Value} {REL K : Act -> World -> Prop} (hat : at0 <= l.length) (_hj : j <= l.length) (hl : l.length <= 4194304) (HJ : Hid (blkF l at0 = j)) (HM : Hid (StMem w wr q)) (h3 : (z == 3) = true) (h4 : z < 4) (hlt : j < l.length) (h46 : l[j] = 46) (hK : ∀ (a : Act) (w' : World), Code.wp Tryz.prog stRest (bodyPost Tryz.prog Tryz.f63 fun e w' => e = .returned (stmtV (stmtF l i)) /\ Below w.heap.size w w') a w' -> K a w') (hR : ∀ (v5 v10 v11 v12 v14 v15 v16 v17 v18 v19 v20 v21 v22 v23 v24 v25 v26 v27 v28 v29 v30 v31 v32 v33 v34 v35 v36 v37 v38 v39 v40 v41 v42 v43 v44 v45 v46 v47 v48 v49 v50 v51 v52 v53 v54 v55 v56 v57 v58 v59 v60 : Value), Code.wp Tryz.prog stRest (bodyPost Tryz.prog Tryz.f63 fun e w' => e = .returned (stmtV (stmtF l i)) /\ Below w.heap.size w w') { tmps := #[.string (B l), .int .i64 (j : Int), undef, undef, .pointer (some ⟨w.heap.size, 0, none⟩), v5, .pointer (some ⟨w.heap.size + 1, 0, none⟩), .pointer (some ⟨w.heap.size + 1 + 1, 0, none⟩), .pointer (some ⟨w.heap.size + 1 + 1 + 1, 0, none⟩), .int .i64 z, v10, v11, v12, .agg #[.string ⟨#[60, 95]⟩, .string ⟨#[60]⟩, .string ⟨#[60, 95, 34]⟩, .string ⟨#[60, 95]⟩], v14, v15, v16, v17, v18, v19, v20, v21, v22, v23, v24, v25, v26, v27, v28, v29, v30, v31, v32, v33, v34, v35, v36, v37, v38, v39, v40, v41, v42, v43, v44, v45, v46, v47, v48, v49, v50, v51, v52, v53, v54, v55, v56, v57, v58, v59, v60, undef, undef, undef, undef, undef, undef, undef, undef, undef, undef, undef, undef, undef, undef, undef, undef, undef, undef, undef, undef, undef, undef, undef, undef, undef, undef, undef, undef], defers := [] } wr) :
  Code.wp Tryz.prog stBody (Exit.then REL (Exit.inBlock 0 (Exit.then K (bodyPost Tryz.prog Tryz.f63 fun e w' => e = .returned (stmtV (stmtF l i)) /\ Below w.heap.size w w')))) { tmps := #[.string (B l), .int .i64 (at0 : Int), undef, undef, .pointer (some ⟨w.heap.size, 0, none⟩), u5, .pointer (some ⟨w.heap.size + 1, 0, none⟩), .pointer (some ⟨w.heap.size + 1 + 1, 0, none⟩), .pointer (some ⟨w.heap.size + 1 + 1 + 1, 0, none⟩), .int .i64 z, u10, u11, u12, .agg #[.string ⟨#[60, 95]⟩, .string ⟨#[60]⟩, .string ⟨#[60, 95, 34]⟩, .string ⟨#[60, 95]⟩], u14, u15, u16, u17, u18, u19, u20, u21, u22, u23, u24, u25, u26, u27, u28, u29, u30, u31, u32, u33, u34, u35, u36, u37, u38, u39, u40, u41, u42, u43, u44, u45, u46, u47, u48, u49, u50, u51, u52, u53, u54, u55, u56, u57, u58, u59, u60, undef, undef, undef, undef, undef, undef, undef, undef, undef, undef, undef, undef, undef, undef, undef, undef, undef, undef, undef, undef, undef, undef, undef, undef, undef, undef, undef, undef], defers := [] } wr := by
 have BK := Lib.hid (fun u => refBlanks_to HJ.out u hat (by omega))
 clear HJ
 have HR := Lib.hid hR
 have HKK := Lib.hid hK
 clear hR hK
 have h4d : decide (z < 4) = true := decide_eq_true h4
 have e1' : decide ((j : Int) < (l.length : Int)) = true := decide_eq_true (by omega)
 have e1 : decide (j < l.length) = true := decide_eq_true hlt
 have j0 : 0 <= (j : Int) := by omega
 have j1 : (j : Int) < (l.length : Int) := by omega
 have e2 : ((l[j].toNat : Int) == 46) = true := byte_eq (d := 46) h46
 clear h46
 conv => arg 2; whnf
 go_wp2_with (go_at_call 62; (with_reducible refine (BK.out _).mono ?_); rintro e w2 ⟨rfl, rfl⟩)
 refine HKK.out _ _ ?_
 exact HR.out _ _ _ _ _ _ _ _ _ _ _ _ _ _ _ _ _ _ _ _ _ _ _ _ _ _ _ _ _ _ _ _ _ _ _ _ _ _ _ _ _ _ _ _ _ _ _ _ _ _ _
set_option maxHeartbeats 2000000 in
theorem stX_4 (l : List UInt8) (i at0 j : Nat) (w wr : World) (q : QuadL) (z : Int) {u5 u10 u11 u12 u14 u15 u16 u17 u18 u19 u20 u21 u22 u23 u24 u25 u26 u27 u28 u29 u30 u31 u32 u33 u34 u35 u36 u37 u38 u39 u40 u41 u42 u43 u44 u45 u46 u47 u48 u49 u50 u51 u52 u53 u54 u55 u56 u57 u58 u59 u60 : Value} {REL K : Act -> World -> Prop} (_hat : at0 <= l.length) (_hj : j <= l.length) (_hl : l.length <= 4194304) (_HJ : Hid (blkF l at0 = j)) (_HM : Hid (StMem w wr q)) (h4 : 4 <= z) (hK : ∀ (a : Act) (w' : World), Code.wp Tryz.prog stRest (bodyPost Tryz.prog Tryz.f63 fun e w' => e = .returned (stmtV (stmtF l i)) /\ Below w.heap.size w w') a w' -> K a w') (hR : ∀ (v5 v10 v11 v12 v14 v15 v16 v17 v18 v19 v20 v21 v22 v23 v24 v25 v26 v27 v28 v29 v30 v31 v32 v33 v34 v35 v36 v37 v38 v39 v40 v41 v42 v43 v44 v45 v46 v47 v48 v49 v50 v51 v52 v53 v54 v55 v56 v57 v58 v59 v60 : Value), Code.wp Tryz.prog stRest (bodyPost Tryz.prog Tryz.f63 fun e w' => e = .returned (stmtV (stmtF l i)) /\ Below w.heap.size w w') { tmps := #[.string (B l), .int .i64 (at0 : Int), undef, undef, .pointer (some ⟨w.heap.size, 0, none⟩), v5, .pointer (some ⟨w.heap.size + 1, 0, none⟩), .pointer (some ⟨w.heap.size + 1 + 1, 0, none⟩), .pointer (some ⟨w.heap.size + 1 + 1 + 1, 0, none⟩), .int .i64 z, v10, v11, v12, .agg #[.string ⟨#[60, 95]⟩, .string ⟨#[60]⟩, .string ⟨#[60, 95, 34]⟩, .string ⟨#[60, 95]⟩], v14, v15, v16, v17, v18, v19, v20, v21, v22, v23, v24, v25, v26, v27, v28, v29, v30, v31, v32, v33, v34, v35, v36, v37, v38, v39, v40, v41, v42, v43, v44, v45, v46, v47, v48, v49, v50, v51, v52, v53, v54, v55, v56, v57, v58, v59, v60, undef, undef, undef, undef, undef, undef, undef, undef, undef, undef, undef, undef, undef, undef, undef, undef, undef, undef, undef, undef, undef, undef, undef, undef, undef, undef, undef, undef], defers := [] } wr) :
  Code.wp Tryz.prog stBody (Exit.then REL (Exit.inBlock 0 (Exit.then K (bodyPost Tryz.prog Tryz.f63 fun e w' => e = .returned (stmtV (stmtF l i)) /\ Below w.heap.size w w')))) { tmps := #[.string (B l), .int .i64 (at0 : Int), undef, undef, .pointer (some ⟨w.heap.size, 0, none⟩), u5, .pointer (some ⟨w.heap.size + 1, 0, none⟩), .pointer (some ⟨w.heap.size + 1 + 1, 0, none⟩), .pointer (some ⟨w.heap.size + 1 + 1 + 1, 0, none⟩), .int .i64 z, u10, u11, u12, .agg #[.string ⟨#[60, 95]⟩, .string ⟨#[60]⟩, .string ⟨#[60, 95, 34]⟩, .string ⟨#[60, 95]⟩], u14, u15, u16, u17, u18, u19, u20, u21, u22, u23, u24, u25, u26, u27, u28, u29, u30, u31, u32, u33, u34, u35, u36, u37, u38, u39, u40, u41, u42, u43, u44, u45, u46, u47, u48, u49, u50, u51, u52, u53, u54, u55, u56, u57, u58, u59, u60, undef, undef, undef, undef, undef, undef, undef, undef, undef, undef, undef, undef, undef, undef, undef, undef, undef, undef, undef, undef, undef, undef, undef, undef, undef, undef, undef, undef], defers := [] } wr := by
 clear _HJ
 have HR := Lib.hid hR
 have HKK := Lib.hid hK
 clear hR hK
 have h4d : decide (z < 4) = false := decide_eq_false (by omega)
 conv => arg 2; whnf
 go_wp2_with fail
 refine HKK.out _ _ ?_
 exact HR.out _ _ _ _ _ _ _ _ _ _ _ _ _ _ _ _ _ _ _ _ _ _ _ _ _ _ _ _ _ _ _ _ _ _ _ _ _ _ _ _ _ _ _ _ _ _ _ _ _ _ _
set_option maxHeartbeats 2000000 in
theorem stE_1 (l : List UInt8) (i at0 j : Nat) (w wr : World) (q : QuadL) (z : Int) {u5 u10 u11 u12 u14 u15 u16 u17 u18 u19 u20 u21 u22 u23 u24 u25 u26 u27 u28 u29 u30 u31 u32 u33 u34 u35 u36 u37 u38 u39 u40 u41 u42 u43 u44 u45 u46 u47 u48 u49 u50 u51 u52 u53 u54 u55 u56 u57 u58 u59 u60 : Value} (hat : at0 <= l.length) (hj : j <= l.length) (hl : l.length <= 4194304) (HJ : Hid (blkF l at0 = j)) (HM : Hid (StMem w wr q)) (hlt : ¬ j < l.length) (HE : Hid (stmtF l i = .inr (j, 90))) :
  Code.wp Tryz.prog stRest (bodyPost Tryz.prog Tryz.f63 fun e w' => e = .returned (stmtV (stmtF l i)) /\ Below w.heap.size w w') { tmps := #[.string (B l), .int .i64 (at0 : Int), undef, undef, .pointer (some ⟨w.heap.size, 0, none⟩), u5, .pointer (some ⟨w.heap.size + 1, 0, none⟩), .pointer (some ⟨w.heap.size + 1 + 1, 0, none⟩), .pointer (some ⟨w.heap.size + 1 + 1 + 1, 0, none⟩), .int .i64 z, u10, u11, u12, .agg #[.string ⟨#[60, 95]⟩, .string ⟨#[60]⟩, .string ⟨#[60, 95, 34]⟩, .string ⟨#[60, 95]⟩], u14, u15, u16, u17, u18, u19, u20, u21, u22, u23, u24, u25, u26, u27, u28, u29, u30, u31, u32, u33, u34, u35, u36, u37, u38, u39, u40, u41, u42, u43, u44, u45, u46, u47, u48, u49, u50, u51, u52, u53, u54, u55, u56, u57, u58, u59, u60, undef, undef, undef, undef, undef, undef, undef, undef, undef, undef, undef, undef, undef, undef, undef, undef, undef, undef, undef, undef, undef, undef, undef, undef, undef, undef, undef, undef], defers := [] } wr := by
 have BK := Lib.hid (fun u => refBlanks_to HJ.out u hat (by omega))
 clear HJ
 have e1' : decide ((l.length : Int) <= (j : Int)) = true := decide_eq_true (by omega)
 have e1 : decide (l.length <= j) = true := decide_eq_true (by omega)
 clear hlt
 have hx := row_two HM.out.f
 have c0 := hx.1
 have c1 := hx.2.1
 have f0 := hx.2.2.1
 have f1 := hx.2.2.2.1
 have hg := hx.2.2.2.2
 clear hx
 have lt0 := HM.out.ltz
 have lt2 := HM.out.lt
 have lt3 := HM.out.lts
 conv => arg 2; whnf
 go_wp2_with (first
  | (go_at_call 62; (with_reducible refine (BK.out _).mono ?_); rintro e w2 ⟨rfl, rfl⟩)
  | (refine wpList_store_same rfl (.tmp 4) (.tmp 74) rfl _ rfl noQuad rfl ?T1 ?hg1 ?_; (case hg1 => exact HM.out.z)))
 obtain ⟨r0, r1, r2, r3⟩ := HM.out.fin (j : Int) 90
 refine bodyPost_ret (results_st _ _ _ _ _ _ _ _ rfl rfl rfl r0 r1 r2) rfl ?_
 exact ⟨by rw [HE.out]; rfl, r3⟩
set_option maxHeartbeats 2000000 in
theorem stE_2 (l : List UInt8) (i at0 j : Nat) (w wr : World) (q : QuadL) (z : Int) {u5 u10 u11 u12 u14 u15 u16 u17 u18 u19 u20 u21 u22 u23 u24 u25 u26 u27 u28 u29 u30 u31 u32 u33 u34 u35 u36 u37 u38 u39 u40 u41 u42 u43 u44 u45 u46 u47 u48 u49 u50 u51 u52 u53 u54 u55 u56 u57 u58 u59 u60 : Value} (hat : at0 <= l.length) (_hj : j <= l.length) (hl : l.length <= 4194304) (HJ : Hid (blkF l at0 = j)) (HM : Hid (StMem w wr q)) (hlt : j < l.length) (h46 : l[j] ≠ 46) (HE : Hid (stmtF l i = .inr (j, 90))) :
  Code.wp Tryz.prog stRest (bodyPost Tryz.prog Tryz.f63 fun e w' => e = .returned (stmtV (stmtF l i)) /\ Below w.heap.size w w') { tmps := #[.string (B l), .int .i64 (at0 : Int), undef, undef, .pointer (some ⟨w.heap.size, 0, none⟩), u5, .pointer (some ⟨w.heap.size + 1, 0, none⟩), .pointer (some ⟨w.heap.size + 1 + 1, 0, none⟩), .pointer (some ⟨w.heap.size + 1 + 1 + 1, 0, none⟩), .int .i64 z, u10, u11, u12, .agg #[.string ⟨#[60, 95]⟩, .string ⟨#[60]⟩, .string ⟨#[60, 95, 34]⟩, .string ⟨#[60, 95]⟩], u14, u15, u16, u17, u18, u19, u20, u21, u22, u23, u24, u25, u26, u27, u28, u29, u30, u31, u32, u33, u34, u35, u36, u37, u38, u39, u40, u41, u42, u43, u44, u45, u46, u47, u48, u49, u50, u51, u52, u53, u54, u55, u56, u57, u58, u59, u60, undef, undef, undef, undef, undef, undef, undef, undef, undef, undef, undef, undef, undef, undef, undef, undef, undef, undef, undef, undef, undef, undef, undef, undef, undef, undef, undef, undef], defers := [] } wr := by
 have BK := Lib.hid (fun u => refBlanks_to HJ.out u hat (by omega))
 clear HJ
 have e1' : decide ((l.length : Int) <= (j : Int)) = false := decide_eq_false (by omega)
 have e1 : decide (l.length <= j) = false := decide_eq_false (by omega)
 have j0 : 0 <= (j : Int) := by omega
 have j1 : (j : Int) < (l.length : Int) := by omega
 have e2 : ((l[j].toNat : Int) != 46) = true := byte_nei (d := 46) h46
 clear h46
 have hx := row_two HM.out.f
 have c0 := hx.1
 have c1 := hx.2.1
 have f0 := hx.2.2.1
 have f1 := hx.2.2.2.1
 have hg := hx.2.2.2.2
 clear hx
 have lt0 := HM.out.ltz
 have lt2 := HM.out.lt
 have lt3 := HM.out.lts
 conv => arg 2; whnf
 go_wp2_with (first
  | (go_at_call 62; (with_reducible refine (BK.out _).mono ?_); rintro e w2 ⟨rfl, rfl⟩)
  | (refine wpList_store_same rfl (.tmp 4) (.tmp 74) rfl _ rfl noQuad rfl ?T1 ?hg1 ?_; (case hg1 => exact HM.out.z)))
 obtain ⟨r0, r1, r2, r3⟩ := HM.out.fin (j : Int) 90
 refine bodyPost_ret (results_st _ _ _ _ _ _ _ _ rfl rfl rfl r0 r1 r2) rfl ?_
 exact ⟨by rw [HE.out]; rfl, r3⟩
set_option maxHeartbeats 4000000 in
theorem stD (l : List UInt8) (i at0 j : Nat) (w wr : World) (q : QuadL) (z : Int) {u5 u10 u11 u12 u14 u15 u16 u17 u18 u19 u20 u21 u22 u23 u24 u25 u26 u27 u28 u29 u30 u31 u32 u33 u34 u35 u36 u37 u38 u39 u40 u41 u42 u43 u44 u45 u46 u47 u48 u49 u50 u51 u52 u53 u54 u55 u56 u57 u58 u59 u60 : Value} (hat : at0 <= l.length) (_hj : j <= l.length) (hl : l.length <= 4194304) (HJ : Hid (blkF l at0 = j)) (HM : Hid (StMem w wr q)) (hlt : j < l.length) (h46 : l[j] = 46) (HE : Hid (stmtF l i = .inl (q, j + 1))) :
  Code.wp Tryz.prog stRest (bodyPost Tryz.prog Tryz.f63 fun e w' => e = .returned (stmtV (stmtF l i)) /\ Below w.heap.size w w') { tmps := #[.string (B l), .int .i64 (at0 : Int), undef, undef, .pointer (some ⟨w.heap.size, 0, none⟩), u5, .pointer (some ⟨w.heap.size + 1, 0, none⟩), .pointer (some ⟨w.heap.size + 1 + 1, 0, none⟩), .pointer (some ⟨w.heap.size + 1 + 1 + 1, 0, none⟩), .int .i64 z, u10, u11, u12, .agg #[.string ⟨#[60, 95]⟩, .string ⟨#[60]⟩, .string ⟨#[60, 95, 34]⟩, .string ⟨#[60, 95]⟩], u14, u15, u16, u17, u18, u19, u20, u21, u22, u23, u24, u25, u26, u27, u28, u29, u30, u31, u32, u33, u34, u35, u36, u37, u38, u39, u40, u41, u42, u43, u44, u45, u46, u47, u48, u49, u50, u51, u52, u53, u54, u55, u56, u57, u58, u59, u60, undef, undef, undef, undef, undef, undef, undef, undef, undef, undef, undef, undef, undef, undef, undef, undef, undef, undef, undef, undef, undef, undef, undef, undef, undef, undef, undef, undef], defers := [] } wr := by
 have BK := Lib.hid (fun u => refBlanks_to HJ.out u hat (by omega))
 clear HJ
 have e1' : decide ((l.length : Int) <= (j : Int)) = false := decide_eq_false (by omega)
 have e1 : decide (l.length <= j) = false := decide_eq_false (by omega)
 have j0 : 0 <= (j : Int) := by omega
 have j1 : (j : Int) < (l.length : Int) := by omega
 have e2 : ((l[j].toNat : Int) != 46) = false := byte_eqi (d := 46) h46
 have W1 : IntKind.i64.wrap ((j : Int) + 1) = (j : Int) + 1 := IntWalk.i64_in _ (by omega)
 clear h46
 obtain ⟨x0, x1, x2, x3, x4, x5, x6, x7, x8, x9, x10, x11, x12, x13, x14, x15⟩ := cells16 (range_of HM.out.q)
 simp only [Nat.zero_add] at x1 x2 x3 x4 x5 x6 x7 x8 x9 x10 x11 x12 x13 x14 x15
 obtain ⟨c0, c1, f0, f1⟩ := cells_two wr w.heap.size (quadC q).toArray HM.out.f (by omega)
 have hg := HM.out.ltf
 have lt0 := HM.out.ltz
 conv => arg 2; whnf
 go_wp2_with (first
  | (go_at_call 62; (with_reducible refine (BK.out _).mono ?_); rintro e w2 ⟨rfl, rfl⟩)
  | (refine wpList_store_quad rfl (.tmp 4) (.tmp 85) rfl _ rfl q rfl ?T1 ?o1 ?hs1 ?hg1 ?_; (case hg1 => exact HM.out.z); (case hs1 => rfl)))
 obtain ⟨r0, r1, r2, r3⟩ := HM.out.done
 refine bodyPost_ret (results_st _ _ _ _ q ((j : Int) + 1) 0 0 rfl rfl rfl r0 r1 r2) rfl ?_
 exact ⟨by rw [HE.out]; rfl, r3⟩
end Go.Proofs.YtdegonmkikfghaaGreatDoor
namespace Go.Proofs.YtdegonmkikfghaaGreatDoor
open Go.RowKit
set_option maxRecDepth 100000
set_option maxHeartbeats 4000000 in
theorem refStmt_l (l : List UInt8) (i : Nat) (w : World) (hb : blkF l i = i) (hi : i <= l.length) (hl : l.length <= 4194304) :
  Calls Tryz.prog 63 #[.string (B l), .int .i64 (i : Int)] w fun e w' => e = .returned (stmtV (stmtF l i)) /\ Below w.heap.size w w' := by
 have HM0 : Hid (StMem w ((((w.alloc (.cells (quadC noQuad).toArray 36)).alloc (.cells #[.int .i64 0, .int .i64 0] 42)).alloc (.cells (quadC noQuad).toArray 72)).alloc (.cells #[.string ⟨#[60, 95]⟩, .string ⟨#[60]⟩, .string ⟨#[60, 95, 34]⟩, .string ⟨#[60, 95]⟩] 146)) noQuad) := Lib.hid (stMem_new w)
 go_enter Tryz.func63, Tryz.ntmps63
 go_wp2_with fail
 go_loopw [1, 9] (fun a s wr => ∃ (k at' j : Nat) (q : QuadL) (z : Int), z = k /\ a = .int .i64 at' /\ s = .int .i64 z /\ k <= 4 /\ at' <= l.length /\ j <= l.length /\ Hid (blkF l at' = j) /\ Hid (QuadSt l i k q j) /\ Hid (StMem w wr q)) (fun _ s _ => 4 - (intOf s).toNat)
 case atStart => exact ⟨0, i, i, noQuad, 0, rfl, rfl, rfl, by omega, hi, hi, Lib.hid hb, Lib.hid (quadSt_start l i), HM0⟩
 case round =>
  obtain ⟨k, at', j, q, z, hz, rfl, rfl, hk, hat, hj, HJ, HS, HM⟩ := hrel
  have HJ2 : Hid (blkF l j = j) := Lib.hid (by rw [<- HJ.out]; exact blkF_idem l l.length at' (by omega))
  have hk5 : k = 0 \/ k = 1 \/ k = 2 \/ k = 3 \/ k = 4 := by omega
  clear HM0 hb
  rcases hk5 with rfl | rfl | rfl | rfl | rfl
  ·obtain rfl : z = 0 := by simpa using hz
   clear hz
   have sk : wr.cell? ⟨w.heap.size + 1 + 1 + 1, 0, none⟩ = some (.string (B [60, 95])) := HM.out.s.cell (j := 0) (by simp)
   cases hsb : seesB l j [60, 95] with
   | false => exact stA_n l i at' j w wr q 0 hat hj hl HJ HM [60, 95] (by simp) sk (by decide) (by omega) (by omega) hsb (Lib.hid (quadSt_bad0 HS.out (slotF_not hsb)))
   | true =>
    obtain ⟨hjl, hsl⟩ := slotF_sees hsb
    cases hq : termAt l j with
    | inr f =>
     obtain ⟨p, c⟩ := f
     rw [hq] at hsl
     exact stB_n p c (bne_iff_ne.2 (termAt_bad (by omega) hq).2) l i at' j w wr q 0 hat hj hl HJ HM [60, 95] (by simp) sk (by decide) (by omega) (by omega) hsb hjl hq (Lib.hid (quadSt_bad0 HS.out hsl))
    | inl f =>
     obtain ⟨t, n⟩ := f
     rw [hq] at hsl
     have HE := Lib.hid (quadSt_ok0 HS.out hsl)
     have hn := (termAt_end hq).2
     refine stC_n t n l i at' j w wr q 0 hat hj hl HJ HM [60, 95] (by simp) sk (by decide) (by omega) (by omega) hsb hjl hq ?_
     intro v5 v10 v11 v12 v14 v15 v16 v17 v18 v19 v20 v21 v22 v23 v24 v25 v26 v27 v28 v29 v30 v31 v32 v33 v34 v35 v36 v37 v38 v39 v40 v41 v42 v43 v44 v45 v46 v47 v48 v49 v50 v51 v52 v53 v54 v55 v56 v57 v58 v59 v60 W HP
     clear HM HS HJ sk hsb hq hsl
     go_roundw
     case rel => exact ⟨_, _, _, _, _, _, _, _, _, _, _, _, _, _, _, _, _, _, _, _, _, _, _, _, _, _, _, _, _, _, _, _, _, _, _, _, _, _, _, _, _, _, _, _, _, _, _, _, _, _, _, _, _, ⟨1, n, blkF l n, ⟨t, q.p, q.o, q.g⟩, 1, rfl, rfl, rfl, by omega, hn, (blkF_bound l l.length n (by omega) hn).2, Lib.hid rfl, HE, HP⟩, rfl⟩
     case measure => simp [intOf]
  ·obtain rfl : z = 1 := by simpa using hz
   clear hz
   have sk : wr.cell? ⟨w.heap.size + 1 + 1 + 1, 1, none⟩ = some (.string (B [60])) := HM.out.s.cell (j := 1) (by simp)
   cases hsb : seesB l j [60] with
   | false => exact stA_n l i at' j w wr q 1 hat hj hl HJ HM [60] (by simp) sk (by decide) (by omega) (by omega) hsb (Lib.hid (quadSt_bad1 HS.out (slotF_not hsb)))
   | true =>
    obtain ⟨hjl, hsl⟩ := slotF_sees hsb
    cases hq : termAt l j with
    | inr f =>
     obtain ⟨p, c⟩ := f
     rw [hq] at hsl
     exact stB_n p c (bne_iff_ne.2 (termAt_bad (by omega) hq).2) l i at' j w wr q 1 hat hj hl HJ HM [60] (by simp) sk (by decide) (by omega) (by omega) hsb hjl hq (Lib.hid (quadSt_bad1 HS.out hsl))
    | inl f =>
     obtain ⟨t, n⟩ := f
     rw [hq] at hsl
     have HE := Lib.hid (quadSt_ok1 HS.out hsl)
     have hn := (termAt_end hq).2
     refine stC_n t n l i at' j w wr q 1 hat hj hl HJ HM [60] (by simp) sk (by decide) (by omega) (by omega) hsb hjl hq ?_
     intro v5 v10 v11 v12 v14 v15 v16 v17 v18 v19 v20 v21 v22 v23 v24 v25 v26 v27 v28 v29 v30 v31 v32 v33 v34 v35 v36 v37 v38 v39 v40 v41 v42 v43 v44 v45 v46 v47 v48 v49 v50 v51 v52 v53 v54 v55 v56 v57 v58 v59 v60 W HP
     clear HM HS HJ sk hsb hq hsl
     go_roundw
     case rel => exact ⟨_, _, _, _, _, _, _, _, _, _, _, _, _, _, _, _, _, _, _, _, _, _, _, _, _, _, _, _, _, _, _, _, _, _, _, _, _, _, _, _, _, _, _, _, _, _, _, _, _, _, _, _, _, ⟨2, n, blkF l n, ⟨q.s, t, q.o, q.g⟩, 2, rfl, rfl, rfl, by omega, hn, (blkF_bound l l.length n (by omega) hn).2, Lib.hid rfl, HE, HP⟩, rfl⟩
     case measure => simp [intOf]
  ·obtain rfl : z = 2 := by simpa using hz
   clear hz
   have sk : wr.cell? ⟨w.heap.size + 1 + 1 + 1, 2, none⟩ = some (.string (B [60, 95, 34])) := HM.out.s.cell (j := 2) (by simp)
   cases hsb : seesB l j [60, 95, 34] with
   | false => exact stA_n l i at' j w wr q 2 hat hj hl HJ HM [60, 95, 34] (by simp) sk (by decide) (by omega) (by omega) hsb (Lib.hid (quadSt_bad2 HS.out (slotF_not hsb)))
   | true =>
    obtain ⟨hjl, hsl⟩ := slotF_sees hsb
    cases hq : termAt l j with
    | inr f =>
     obtain ⟨p, c⟩ := f
     rw [hq] at hsl
     exact stB_n p c (bne_iff_ne.2 (termAt_bad (by omega) hq).2) l i at' j w wr q 2 hat hj hl HJ HM [60, 95, 34] (by simp) sk (by decide) (by omega) (by omega) hsb hjl hq (Lib.hid (quadSt_bad2 HS.out hsl))
    | inl f =>
     obtain ⟨t, n⟩ := f
     rw [hq] at hsl
     have HE := Lib.hid (quadSt_ok2 HS.out hsl)
     have hn := (termAt_end hq).2
     refine stC_n t n l i at' j w wr q 2 hat hj hl HJ HM [60, 95, 34] (by simp) sk (by decide) (by omega) (by omega) hsb hjl hq ?_
     intro v5 v10 v11 v12 v14 v15 v16 v17 v18 v19 v20 v21 v22 v23 v24 v25 v26 v27 v28 v29 v30 v31 v32 v33 v34 v35 v36 v37 v38 v39 v40 v41 v42 v43 v44 v45 v46 v47 v48 v49 v50 v51 v52 v53 v54 v55 v56 v57 v58 v59 v60 W HP
     clear HM HS HJ sk hsb hq hsl
     go_roundw
     case rel => exact ⟨_, _, _, _, _, _, _, _, _, _, _, _, _, _, _, _, _, _, _, _, _, _, _, _, _, _, _, _, _, _, _, _, _, _, _, _, _, _, _, _, _, _, _, _, _, _, _, _, _, _, _, _, _, ⟨3, n, blkF l n, ⟨q.s, q.p, t, q.g⟩, 3, rfl, rfl, rfl, by omega, hn, (blkF_bound l l.length n (by omega) hn).2, Lib.hid rfl, HE, HP⟩, rfl⟩
     case measure => simp [intOf]
  ·obtain rfl : z = 3 := by simpa using hz
   clear hz
   have sk : wr.cell? ⟨w.heap.size + 1 + 1 + 1, 3, none⟩ = some (.string (B [60, 95])) := HM.out.s.cell (j := 3) (by simp)
   by_cases hlt : j < l.length
   case neg =>
    have hd : l.getD j 0 ≠ 46 := by rw [show l.getD j 0 = 0 by simp [List.getD, hlt]]; decide
    cases hsb : seesB l j [60, 95] with
    | false => exact stA_e l i at' j w wr q 3 hat hj hl HJ HM [60, 95] (by simp) sk (by decide) (by omega) (by omega) hlt hsb (Lib.hid (quadSt_bad3 HS.out hd (slotF_not hsb)))
    | true => exact absurd (slotF_sees hsb).1 hlt
   have hgj : l.getD j 0 = l[j] := by simp [List.getD, hlt]
   by_cases h46 : l[j] = 46
   case pos =>
    exact stX_3 l i at' j w wr q 3 hat hj hl HJ HM (by decide) (by omega) hlt h46 (by assumption) (fun v5 v10 v11 v12 v14 v15 v16 v17 v18 v19 v20 v21 v22 v23 v24 v25 v26 v27 v28 v29 v30 v31 v32 v33 v34 v35 v36 v37 v38 v39 v40 v41 v42 v43 v44 v45 v46 v47 v48 v49 v50 v51 v52 v53 v54 v55 v56 v57 v58 v59 v60 => stD l i j j w wr q 3 hj hj hl HJ2 HM hlt h46 (Lib.hid (quadSt_dot3 HS.out (by rw [hgj]; exact h46))))
   have hd : l.getD j 0 ≠ 46 := by rw [hgj]; exact h46
   cases hsb : seesB l j [60, 95] with
   | false => exact stA_d l i at' j w wr q 3 hat hj hl HJ HM [60, 95] (by simp) sk (by decide) (by omega) (by omega) hlt h46 hsb (Lib.hid (quadSt_bad3 HS.out hd (slotF_not hsb)))
   | true =>
    obtain ⟨hjl, hsl⟩ := slotF_sees hsb
    cases hq : termAt l j with
    | inr f =>
     obtain ⟨p, c⟩ := f
     rw [hq] at hsl
     exact stB_d p c (bne_iff_ne.2 (termAt_bad (by omega) hq).2) l i at' j w wr q 3 hat hj hl HJ HM [60, 95] (by simp) sk (by decide) (by omega) (by omega) hlt h46 hsb hjl hq (Lib.hid (quadSt_bad3 HS.out hd hsl))
    | inl f =>
     obtain ⟨t, n⟩ := f
     rw [hq] at hsl
     have HE := Lib.hid (quadSt_ok3 HS.out hd hsl)
     have hn := (termAt_end hq).2
     refine stC_d t n l i at' j w wr q 3 hat hj hl HJ HM [60, 95] (by simp) sk (by decide) (by omega) (by omega) hlt h46 hsb hjl hq ?_
     intro v5 v10 v11 v12 v14 v15 v16 v17 v18 v19 v20 v21 v22 v23 v24 v25 v26 v27 v28 v29 v30 v31 v32 v33 v34 v35 v36 v37 v38 v39 v40 v41 v42 v43 v44 v45 v46 v47 v48 v49 v50 v51 v52 v53 v54 v55 v56 v57 v58 v59 v60 W HP
     clear HM HS HJ sk hsb hq hsl
     go_roundw
     case rel => exact ⟨_, _, _, _, _, _, _, _, _, _, _, _, _, _, _, _, _, _, _, _, _, _, _, _, _, _, _, _, _, _, _, _, _, _, _, _, _, _, _, _, _, _, _, _, _, _, _, _, _, _, _, _, _, ⟨4, n, blkF l n, ⟨q.s, q.p, q.o, t⟩, 4, rfl, rfl, rfl, by omega, hn, (blkF_bound l l.length n (by omega) hn).2, Lib.hid rfl, HE, HP⟩, rfl⟩
     case measure => simp [intOf]
  ·obtain rfl : z = 4 := by simpa using hz
   clear hz
   have hend : ∀ (_ : l.getD j 0 ≠ 46), stmtF l i = .inr (j, 90) := fun hd => quadSt_end4 HS.out hd
   refine stX_4 l i at' j w wr q 4 hat hj hl HJ HM (by omega) (by assumption) ?_
   intro v5 v10 v11 v12 v14 v15 v16 v17 v18 v19 v20 v21 v22 v23 v24 v25 v26 v27 v28 v29 v30 v31 v32 v33 v34 v35 v36 v37 v38 v39 v40 v41 v42 v43 v44 v45 v46 v47 v48 v49 v50 v51 v52 v53 v54 v55 v56 v57 v58 v59 v60
   by_cases hlt : j < l.length
   case neg => exact stE_1 l i at' j w wr q 4 hat hj hl HJ HM hlt (Lib.hid (hend (by rw [show l.getD j 0 = 0 by simp [List.getD, hlt]]; decide)))
   have hgj : l.getD j 0 = l[j] := by simp [List.getD, hlt]
   by_cases h46 : l[j] = 46
   case neg => exact stE_2 l i at' j w wr q 4 hat hj hl HJ HM hlt h46 (Lib.hid (hend (by rw [hgj]; exact h46)))
   exact stD l i at' j w wr q 4 hat hj hl HJ HM hlt h46 (Lib.hid (quadSt_dot4 HS.out (by rw [hgj]; exact h46)))
end Go.Proofs.YtdegonmkikfghaaGreatDoor
namespace Go.Proofs.YtdegonmkikfghaaGreatDoor
open Go.RowKit
set_option maxRecDepth 100000
def lineV : Option QuadL ⊕ (Nat × Int) -> Value
 | .inl (some q) => .tuple #[qv q, .bool true, .agg #[.int .i64 0, .int .i64 0]]
 | .inl none => .tuple #[qv noQuad, .bool false, .agg #[.int .i64 0, .int .i64 0]]
 | .inr (p, e) => .tuple #[qv noQuad, .bool false, .agg #[.int .i64 (p : Int), .int .i64 e]]
structure RlMem (w wr : World) (x : QuadL) : Prop where
 b : Below w.heap.size w wr
 z : wr.heap[w.heap.size]? = some (.cells (quadC noQuad).toArray 36 (0, 0))
 f : RowAt wr (w.heap.size + 1) [.int .i64 0, .int .i64 0]
 y : wr.heap[w.heap.size + 1 + 1]? = some (.cells (quadC x).toArray 36 (0, 0))
theorem RlMem.below {w wr u : World} {x : QuadL} (h : RlMem w wr x) (h2 : Below wr.heap.size wr u) : RlMem w u x :=
 ⟨h.b.trans (h2.mono h.b.size), (h2.block w.heap.size (Array.getElem?_eq_some_iff.1 h.z).1).trans h.z, rowAt_below h.f h2, (h2.block (w.heap.size + 1 + 1) (Array.getElem?_eq_some_iff.1 h.y).1).trans h.y⟩
theorem RlMem.lty {w wr : World} {x : QuadL} (h : RlMem w wr x) : w.heap.size + 1 + 1 < wr.heap.size := (Array.getElem?_eq_some_iff.1 h.y).1
theorem RlMem.ltz {w wr : World} {x : QuadL} (h : RlMem w wr x) : w.heap.size < wr.heap.size := by have := h.lty; omega
theorem RlMem.ltf {w wr : World} {x : QuadL} (h : RlMem w wr x) : w.heap.size + 1 < wr.heap.size := by have := h.lty; omega
theorem RowAt.row {w : World} {g f : Nat} {vs : List Value} (h : RowAt w f vs) (hne : f ≠ g) (cs : Array Value) : RowAt (w.setRow g cs) f vs := fun j hj => by
 have e : (w.setRow g cs).heap[f]? = w.heap[f]? := setRow_other _ _ _ _ hne
 refine ⟨by rw [World.cell?_of_block e]; exact h.cell hj, ?_⟩
 have := h.free hj
 simp only [World.frozen?] at this ⊢
 rw [e]
 exact this
theorem RlMem.put {w wr : World} {x : QuadL} (h : RlMem w wr x) (q : QuadL) : RlMem w (wr.setRow (w.heap.size + 1 + 1) (quadC q).toArray) q :=
 ⟨below_row h.b (by omega) _, by rw [setRow_other _ _ _ _ (by omega)]; exact h.z, h.f.row (by omega) _, setRow_heap _ _ _ _ _ _ h.y⟩
theorem rlMem_new (w : World) : RlMem w (((w.alloc (.cells (quadC noQuad).toArray 36)).alloc (.cells #[.int .i64 0, .int .i64 0] 42)).alloc (.cells (quadC noQuad).toArray 36)) noQuad := by
 have s1 : (w.alloc (.cells (quadC noQuad).toArray 36)).heap.size = w.heap.size + 1 := World.size_alloc _ _
 have s2 : ((w.alloc (.cells (quadC noQuad).toArray 36)).alloc (.cells #[.int .i64 0, .int .i64 0] 42)).heap.size = w.heap.size + 1 + 1 := by rw [World.size_alloc, s1]
 have hb0 : Below w.heap.size w (w.alloc (.cells (quadC noQuad).toArray 36)) := (Below.refl _ _).alloc (Nat.le_refl _) _
 have hb1 := hb0.alloc hb0.size (.cells #[.int .i64 0, .int .i64 0] 42)
 have hb2 := hb1.alloc hb1.size (.cells (quadC noQuad).toArray 36)
 refine ⟨hb2, ?_, ?_, ?_⟩
 ·rw [heap_alloc_old _ _ (by omega), heap_alloc_old _ _ (by omega)]
  exact heap_alloc_new _ _
 ·have h := flt_new (w.alloc (.cells (quadC noQuad).toArray 36))
  rw [s1] at h
  exact rowAt_below h ((Below.refl _ _).alloc (Nat.le_refl _) _)
 ·have h := heap_alloc_new ((w.alloc (.cells (quadC noQuad).toArray 36)).alloc (.cells #[.int .i64 0, .int .i64 0] 42)) (.cells (quadC noQuad).toArray 36)
  rw [s2] at h
  exact h
theorem refStmt_bad {l : List UInt8} {i p : Nat} {e : Int} (h : stmtF l i = .inr (p, e)) (w : World) (hb : blkF l i = i) (hi : i <= l.length) (hl : l.length <= 4194304) : Calls Tryz.prog 63 #[.string (B l), .int .i64 (i : Int)] w fun x w' => x = .returned (.tuple #[qv noQuad, .int .i64 0, .agg #[.int .i64 (p : Int), .int .i64 e]]) /\ Below w.heap.size w w' := by
 have := refStmt_l l i w hb hi hl
 rw [h] at this
 exact this
theorem refStmt_ok {l : List UInt8} {i n : Nat} {q : QuadL} (h : stmtF l i = .inl (q, n)) (w : World) (hb : blkF l i = i) (hi : i <= l.length) (hl : l.length <= 4194304) : Calls Tryz.prog 63 #[.string (B l), .int .i64 (i : Int)] w fun x w' => x = .returned (.tuple #[qv q, .int .i64 (n : Int), .agg #[.int .i64 0, .int .i64 0]]) /\ Below w.heap.size w w' := by
 have := refStmt_l l i w hb hi hl
 rw [h] at this
 exact this
theorem refCheck_to {t : List UInt8} {z : Int} (h : utfF t 0 = z) (w : World) (ht : t.length <= 4611686018427387904) : Calls Tryz.prog 64 #[.string (B t)] w fun e w' => e = .returned (.int .i64 z) /\ Below w.heap.size w w' := h ▸ refUtfCheck_l t w ht
theorem results_ln (tm : Array Value) (u : World) (g f : Nat) (q : QuadL) (b : Bool) (p e : Int) (h2 : tm.getD 2 undef = .pointer (some ⟨g, 0, none⟩)) (h3 : tm.getD 3 undef = .bool b) (h4 : tm.getD 4 undef = .pointer (some ⟨f, 0, none⟩))
  (hz : u.rangeAt g 0 (quadC q)) (c0 : u.cell? ⟨f, 0, none⟩ = some (.int .i64 p)) (c1 : u.cell? ⟨f, 1, none⟩ = some (.int .i64 e)) :
  (results Tryz.f39 tm).run Tryz.prog u = .ok (.tuple #[qv q, .bool b, .agg #[.int .i64 p, .int .i64 e]]) u := by
 obtain ⟨z0, z1, z2, z3, z4, z5, z6, z7, z8, z9, z10, z11, z12, z13, z14, z15⟩ := cells16 hz
 simp only [Nat.zero_add] at z1 z2 z3 z4 z5 z6 z7 z8 z9 z10 z11 z12 z13 z14 z15
 have hr : (Tryz.f39).results = #[.cell 2 36, .tmp 3, .cell 4 42] := rfl
 rw [Array.getD_eq_getD_getElem?] at h2 h3 h4
 simp [results, h2, h3, h4, go_sem, c0, c1, z0, z1, z2, z3, z4, z5, z6, z7, z8, z9, z10, z11, z12, z13, z14, z15]
theorem RlMem.fin {w u : World} {x : QuadL} (h : RlMem w u x) (p e : Int) :
  ((u.setCell ⟨w.heap.size + 1, 0, none⟩ (.int .i64 p)).setCell ⟨w.heap.size + 1, 1, none⟩ (.int .i64 e)).rangeAt w.heap.size 0 (quadC noQuad) /\
  ((u.setCell ⟨w.heap.size + 1, 0, none⟩ (.int .i64 p)).setCell ⟨w.heap.size + 1, 1, none⟩ (.int .i64 e)).cell? ⟨w.heap.size + 1, 0, none⟩ = some (.int .i64 p) /\
  ((u.setCell ⟨w.heap.size + 1, 0, none⟩ (.int .i64 p)).setCell ⟨w.heap.size + 1, 1, none⟩ (.int .i64 e)).cell? ⟨w.heap.size + 1, 1, none⟩ = some (.int .i64 e) /\
  Below w.heap.size w ((u.setCell ⟨w.heap.size + 1, 0, none⟩ (.int .i64 p)).setCell ⟨w.heap.size + 1, 1, none⟩ (.int .i64 e)) := by
 have hf := (h.f.set (j := 0) (by simp) (.int .i64 p)).set (j := 1) (by simp) (.int .i64 e)
 refine ⟨?_, hf.cell (j := 0) (by simp), hf.cell (j := 1) (by simp), (h.b.setCell (by simp) _).setCell (by simp) _⟩
 refine range_row (T := 36) (fr := (0, 0)) ?_
 rw [RowKit.Below.heap_setCell _ _ _ _ (by simp), RowKit.Below.heap_setCell _ _ _ _ (by simp)]
 exact h.z
theorem RlMem.done {w u : World} {x : QuadL} (h : RlMem w u x) (q : QuadL) :
  (((u.setRow w.heap.size (quadC q).toArray).setCell ⟨w.heap.size + 1, 0, none⟩ (.int .i64 0)).setCell ⟨w.heap.size + 1, 1, none⟩ (.int .i64 0)).rangeAt w.heap.size 0 (quadC q) /\
  (((u.setRow w.heap.size (quadC q).toArray).setCell ⟨w.heap.size + 1, 0, none⟩ (.int .i64 0)).setCell ⟨w.heap.size + 1, 1, none⟩ (.int .i64 0)).cell? ⟨w.heap.size + 1, 0, none⟩ = some (.int .i64 0) /\
  (((u.setRow w.heap.size (quadC q).toArray).setCell ⟨w.heap.size + 1, 0, none⟩ (.int .i64 0)).setCell ⟨w.heap.size + 1, 1, none⟩ (.int .i64 0)).cell? ⟨w.heap.size + 1, 1, none⟩ = some (.int .i64 0) /\
  Below w.heap.size w (((u.setRow w.heap.size (quadC q).toArray).setCell ⟨w.heap.size + 1, 0, none⟩ (.int .i64 0)).setCell ⟨w.heap.size + 1, 1, none⟩ (.int .i64 0)) := by
 have hf := ((h.f.row (show w.heap.size + 1 ≠ w.heap.size by omega) (quadC q).toArray).set (j := 0) (by simp) (.int .i64 0)).set (j := 1) (by simp) (.int .i64 0)
 refine ⟨?_, hf.cell (j := 0) (by simp), hf.cell (j := 1) (by simp), ((below_row h.b (Nat.le_refl _) _).setCell (by simp) _).setCell (by simp) _⟩
 have h16 := row16 q h.z
 intro k v hk
 rw [World.cell?_setCell_other _ _ _ _ (by simp), World.cell?_setCell_other _ _ _ _ (by simp)]
 exact h16 k v hk
set_option maxHeartbeats 2000000 in
theorem ln1 (l : List UInt8) (w : World) (hl : l.length <= 4194304) (k : Nat) (hk : blkF l 0 = k) (hlt : ¬ k < l.length) (hle : k <= l.length) :
  Calls Tryz.prog 39 #[.string (B l)] w fun e w' => e = .returned (.tuple #[qv noQuad, .bool false, .agg #[.int .i64 0, .int .i64 0]]) /\ Below w.heap.size w w' := by
 have HM0 : Hid (RlMem w (((w.alloc (.cells #[.int .i64 0, .string ⟨#[]⟩, .string ⟨#[]⟩, .string ⟨#[]⟩, .int .i64 0, .string ⟨#[]⟩, .string ⟨#[]⟩, .string ⟨#[]⟩, .int .i64 0, .string ⟨#[]⟩, .string ⟨#[]⟩, .string ⟨#[]⟩, .int .i64 0, .string ⟨#[]⟩, .string ⟨#[]⟩, .string ⟨#[]⟩] 36)).alloc (.cells #[.int .i64 0, .int .i64 0] 42)).alloc (.cells #[.int .i64 0, .string ⟨#[]⟩, .string ⟨#[]⟩, .string ⟨#[]⟩, .int .i64 0, .string ⟨#[]⟩, .string ⟨#[]⟩, .string ⟨#[]⟩, .int .i64 0, .string ⟨#[]⟩, .string ⟨#[]⟩, .string ⟨#[]⟩, .int .i64 0, .string ⟨#[]⟩, .string ⟨#[]⟩, .string ⟨#[]⟩] 36)) noQuad) := Lib.hid (rlMem_new w)
 have BK : Hid (∀ u, Calls Tryz.prog 62 #[.string (B l), .int .i64 0] u fun e w' => e = .returned (.int .i64 (k : Int)) /\ w' = u) := Lib.hid (fun u => refBlanks_to hk u (Nat.zero_le _) (by omega))
 have k0 : 0 <= (k : Int) := by omega
 have e1 : decide (k < l.length) = false := decide_eq_false hlt
 have e1' : decide ((k : Int) < (l.length : Int)) = false := decide_eq_false (by omega)
 have e5 : ((k : Int) == (l.length : Int)) = true := beq_iff_eq.2 (by omega)
 clear hlt hk
 have hx := cells_two _ w.heap.size (quadC noQuad).toArray HM0.out.f (by omega)
 have c0 := hx.1
 have c1 := hx.2.1
 have f0 := hx.2.2.1
 have f1 := hx.2.2.2
 clear hx
 have hg := HM0.out.ltf
 have lt0 := HM0.out.ltz
 go_enter Tryz.func39, Tryz.ntmps39
 go_wp2_with (first
  | (go_at_call 62; (with_reducible refine (BK.out _).mono ?_); rintro e w2 ⟨rfl, rfl⟩)
  | (have _t := HM0; refine wpList_load_quad rfl (.tmp 6) rfl _ 0 rfl noQuad ?hr ?_; (case hr => exact range_row HM0.out.y))
  | (have _t := HM0; refine wpList_store_quad rfl (.tmp 2) (.tmp 45) rfl _ rfl noQuad rfl ?T1 ?o1 ?hs1 ?hg1 ?_; (case hg1 => exact HM0.out.z); (case hs1 => rfl)))
 obtain ⟨r0, r1, r2, r3⟩ := HM0.out.done noQuad
 refine bodyPost_ret (results_ln _ _ _ _ noQuad false 0 0 rfl rfl rfl r0 r1 r2) rfl ?_
 exact ⟨rfl, r3⟩
set_option maxHeartbeats 2000000 in
theorem ln2 (l : List UInt8) (w : World) (hl : l.length <= 4194304) (k : Nat) (hk : blkF l 0 = k) (hlt : k < l.length) (h35 : l[k] = 35) (z : Nat) (hz : utfF (l.drop k) 0 = (z : Int)) :
  Calls Tryz.prog 39 #[.string (B l)] w fun e w' => e = .returned (.tuple #[qv noQuad, .bool false, .agg #[.int .i64 ((k : Int) + (z : Int)), .int .i64 40]]) /\ Below w.heap.size w w' := by
 have HM0 : Hid (RlMem w (((w.alloc (.cells #[.int .i64 0, .string ⟨#[]⟩, .string ⟨#[]⟩, .string ⟨#[]⟩, .int .i64 0, .string ⟨#[]⟩, .string ⟨#[]⟩, .string ⟨#[]⟩, .int .i64 0, .string ⟨#[]⟩, .string ⟨#[]⟩, .string ⟨#[]⟩, .int .i64 0, .string ⟨#[]⟩, .string ⟨#[]⟩, .string ⟨#[]⟩] 36)).alloc (.cells #[.int .i64 0, .int .i64 0] 42)).alloc (.cells #[.int .i64 0, .string ⟨#[]⟩, .string ⟨#[]⟩, .string ⟨#[]⟩, .int .i64 0, .string ⟨#[]⟩, .string ⟨#[]⟩, .string ⟨#[]⟩, .int .i64 0, .string ⟨#[]⟩, .string ⟨#[]⟩, .string ⟨#[]⟩, .int .i64 0, .string ⟨#[]⟩, .string ⟨#[]⟩, .string ⟨#[]⟩] 36)) noQuad) := Lib.hid (rlMem_new w)
 have BK : Hid (∀ u, Calls Tryz.prog 62 #[.string (B l), .int .i64 0] u fun e w' => e = .returned (.int .i64 (k : Int)) /\ w' = u) := Lib.hid (fun u => refBlanks_to hk u (Nat.zero_le _) (by omega))
 have k0 : 0 <= (k : Int) := by omega
 have e1 : decide (k < l.length) = true := decide_eq_true hlt
 have e1' : decide ((k : Int) < (l.length : Int)) = true := decide_eq_true (by omega)
 have k1 : (k : Int) < (l.length : Int) := by omega
 have e2 : ((l[k].toNat : Int) != 35) = false := byte_eqi (d := 35) h35
 have e5 : ((k : Int) == (l.length : Int)) = false := beq_eq_false_iff_ne.2 (by omega)
 clear h35 hk
 have hul : utfF (l.drop k) 0 <= (l.length : Int) := utfF_le (l.drop k) l.length (by simp) (l.drop k).length 0 (by omega)
 have CK := Lib.hid (fun u => refCheck_to hz u (by simp; omega))
 have e7 : decide ((0 : Int) <= (z : Int)) = true := decide_eq_true (by omega)
 have hzl : (z : Int) <= (l.length : Int) := by omega
 clear hul hz
 go_enter Tryz.func39, Tryz.ntmps39
 go_wp2_with (first
  | (go_at_call 62; (with_reducible refine (BK.out _).mono ?_); rintro e w2 ⟨rfl, rfl⟩)
  | (go_at_call 64; (with_reducible refine (CK.out _).mono ?_); rintro e w8 ⟨rfl, hb8⟩; have HM8 := Lib.hid (HM0.out.below hb8); clear hb8; have hx := row_two HM8.out.f; have c0 := hx.1; have c1 := hx.2.1; have f0 := hx.2.2.1; have f1 := hx.2.2.2.1; have hg := hx.2.2.2.2; clear hx; have lt0 := HM8.out.ltz)
  | (have _t := HM8; refine wpList_store_same rfl (.tmp 2) (.tmp 61) rfl _ rfl noQuad rfl ?T1 ?hg1 ?_; (case hg1 => exact HM8.out.z)))
 obtain ⟨r0, r1, r2, r3⟩ := HM8.out.fin ((k : Int) + (z : Int)) 40
 refine bodyPost_ret (results_ln _ _ _ _ _ _ _ _ rfl rfl rfl r0 r1 r2) rfl ?_
 exact ⟨rfl, r3⟩
set_option maxHeartbeats 2000000 in
theorem ln3 (l : List UInt8) (w : World) (hl : l.length <= 4194304) (k : Nat) (hk : blkF l 0 = k) (hlt : k < l.length) (h35 : l[k] = 35) (z : Int) (hz : utfF (l.drop k) 0 = z) (hneg : ¬ 0 <= z) :
  Calls Tryz.prog 39 #[.string (B l)] w fun e w' => e = .returned (.tuple #[qv noQuad, .bool false, .agg #[.int .i64 0, .int .i64 0]]) /\ Below w.heap.size w w' := by
 have HM0 : Hid (RlMem w (((w.alloc (.cells #[.int .i64 0, .string ⟨#[]⟩, .string ⟨#[]⟩, .string ⟨#[]⟩, .int .i64 0, .string ⟨#[]⟩, .string ⟨#[]⟩, .string ⟨#[]⟩, .int .i64 0, .string ⟨#[]⟩, .string ⟨#[]⟩, .string ⟨#[]⟩, .int .i64 0, .string ⟨#[]⟩, .string ⟨#[]⟩, .string ⟨#[]⟩] 36)).alloc (.cells #[.int .i64 0, .int .i64 0] 42)).alloc (.cells #[.int .i64 0, .string ⟨#[]⟩, .string ⟨#[]⟩, .string ⟨#[]⟩, .int .i64 0, .string ⟨#[]⟩, .string ⟨#[]⟩, .string ⟨#[]⟩, .int .i64 0, .string ⟨#[]⟩, .string ⟨#[]⟩, .string ⟨#[]⟩, .int .i64 0, .string ⟨#[]⟩, .string ⟨#[]⟩, .string ⟨#[]⟩] 36)) noQuad) := Lib.hid (rlMem_new w)
 have BK : Hid (∀ u, Calls Tryz.prog 62 #[.string (B l), .int .i64 0] u fun e w' => e = .returned (.int .i64 (k : Int)) /\ w' = u) := Lib.hid (fun u => refBlanks_to hk u (Nat.zero_le _) (by omega))
 have k0 : 0 <= (k : Int) := by omega
 have e1 : decide (k < l.length) = true := decide_eq_true hlt
 have e1' : decide ((k : Int) < (l.length : Int)) = true := decide_eq_true (by omega)
 have k1 : (k : Int) < (l.length : Int) := by omega
 have e2 : ((l[k].toNat : Int) != 35) = false := byte_eqi (d := 35) h35
 have e5 : ((k : Int) == (l.length : Int)) = false := beq_eq_false_iff_ne.2 (by omega)
 clear h35 hk
 have hul : utfF (l.drop k) 0 <= (l.length : Int) := utfF_le (l.drop k) l.length (by simp) (l.drop k).length 0 (by omega)
 have CK := Lib.hid (fun u => refCheck_to hz u (by simp; omega))
 have e7 : decide ((0 : Int) <= z) = false := decide_eq_false (by omega)
 clear hul hz
 go_enter Tryz.func39, Tryz.ntmps39
 go_wp2_with (first
  | (go_at_call 62; (with_reducible refine (BK.out _).mono ?_); rintro e w2 ⟨rfl, rfl⟩)
  | (go_at_call 64; (with_reducible refine (CK.out _).mono ?_); rintro e w8 ⟨rfl, hb8⟩; have HM8 := Lib.hid (HM0.out.below hb8); clear hb8; have hx := cells_two _ w.heap.size (quadC noQuad).toArray HM8.out.f (by omega); have c0 := hx.1; have c1 := hx.2.1; have f0 := hx.2.2.1; have f1 := hx.2.2.2; clear hx; have hg := HM8.out.ltf; have lt0 := HM8.out.ltz)
  | (have _t := HM8; refine wpList_load_quad rfl (.tmp 6) rfl _ 0 rfl noQuad ?hr ?_; (case hr => exact range_row HM8.out.y))
  | (have _t := HM8; refine wpList_store_quad rfl (.tmp 2) (.tmp 66) rfl _ rfl noQuad rfl ?T1 ?o1 ?hs1 ?hg1 ?_; (case hg1 => exact HM8.out.z); (case hs1 => rfl)))
 obtain ⟨r0, r1, r2, r3⟩ := HM8.out.done noQuad
 refine bodyPost_ret (results_ln _ _ _ _ noQuad false 0 0 rfl rfl rfl r0 r1 r2) rfl ?_
 exact ⟨rfl, r3⟩
set_option maxHeartbeats 2000000 in
theorem ln4 (l : List UInt8) (w : World) (hl : l.length <= 4194304) (k : Nat) (hk : blkF l 0 = k) (hlt : k < l.length) (h35 : l[k] ≠ 35) (hid : blkF l k = k) (p : Nat) (c : Int) (hq : stmtF l k = .inr (p, c)) :
  Calls Tryz.prog 39 #[.string (B l)] w fun e w' => e = .returned (.tuple #[qv noQuad, .bool false, .agg #[.int .i64 (p : Int), .int .i64 c]]) /\ Below w.heap.size w w' := by
 have HM0 : Hid (RlMem w (((w.alloc (.cells #[.int .i64 0, .string ⟨#[]⟩, .string ⟨#[]⟩, .string ⟨#[]⟩, .int .i64 0, .string ⟨#[]⟩, .string ⟨#[]⟩, .string ⟨#[]⟩, .int .i64 0, .string ⟨#[]⟩, .string ⟨#[]⟩, .string ⟨#[]⟩, .int .i64 0, .string ⟨#[]⟩, .string ⟨#[]⟩, .string ⟨#[]⟩] 36)).alloc (.cells #[.int .i64 0, .int .i64 0] 42)).alloc (.cells #[.int .i64 0, .string ⟨#[]⟩, .string ⟨#[]⟩, .string ⟨#[]⟩, .int .i64 0, .string ⟨#[]⟩, .string ⟨#[]⟩, .string ⟨#[]⟩, .int .i64 0, .string ⟨#[]⟩, .string ⟨#[]⟩, .string ⟨#[]⟩, .int .i64 0, .string ⟨#[]⟩, .string ⟨#[]⟩, .string ⟨#[]⟩] 36)) noQuad) := Lib.hid (rlMem_new w)
 have BK : Hid (∀ u, Calls Tryz.prog 62 #[.string (B l), .int .i64 0] u fun e w' => e = .returned (.int .i64 (k : Int)) /\ w' = u) := Lib.hid (fun u => refBlanks_to hk u (Nat.zero_le _) (by omega))
 have k0 : 0 <= (k : Int) := by omega
 have e1 : decide (k < l.length) = true := decide_eq_true hlt
 have e1' : decide ((k : Int) < (l.length : Int)) = true := decide_eq_true (by omega)
 have k1 : (k : Int) < (l.length : Int) := by omega
 have e2 : ((l[k].toNat : Int) != 35) = true := byte_nei (d := 35) h35
 have e0 : (c != 0) = true := bne_iff_ne.2 (stmtF_bad (by omega) hq).2
 have SM := Lib.hid (fun u => refStmt_bad hq u hid (by omega) hl)
 clear hq hid hk h35
 go_enter Tryz.func39, Tryz.ntmps39
 go_wp2_with (first
  | (go_at_call 62; (with_reducible refine (BK.out _).mono ?_); rintro e w2 ⟨rfl, rfl⟩)
  | (go_at_call 63; (with_reducible refine (SM.out _).mono ?_); rintro e w4 ⟨rfl, hb4⟩; have HM4 := Lib.hid (HM0.out.below hb4); have hx := row_two HM4.out.f; have c0 := hx.1; have c1 := hx.2.1; have f0 := hx.2.2.1; have f1 := hx.2.2.2.1; have hg := hx.2.2.2.2; clear hx; have lt0 := HM4.out.ltz; obtain ⟨pa0, pa1, pa2, pa3, pa4⟩ := far_facts HM4.out.ltz; obtain ⟨pb0, pb1, pb2, pb3, pb4⟩ := far_facts HM4.out.ltf; have hx4 := cells16 (range_row HM4.out.z); have hx5 := free16 HM4.out.z; have z0 := hx4.1; have z1 := hx4.2.1; have z2 := hx4.2.2.1; have z3 := hx4.2.2.2.1; have z4 := hx4.2.2.2.2.1; have z5 := hx4.2.2.2.2.2.1; have z6 := hx4.2.2.2.2.2.2.1; have z7 := hx4.2.2.2.2.2.2.2.1; have z8 := hx4.2.2.2.2.2.2.2.2.1; have z9 := hx4.2.2.2.2.2.2.2.2.2.1; have z10 := hx4.2.2.2.2.2.2.2.2.2.2.1; have z11 := hx4.2.2.2.2.2.2.2.2.2.2.2.1; have z12 := hx4.2.2.2.2.2.2.2.2.2.2.2.2.1; have z13 := hx4.2.2.2.2.2.2.2.2.2.2.2.2.2.1; have z14 := hx4.2.2.2.2.2.2.2.2.2.2.2.2.2.2.1; have z15 := hx4.2.2.2.2.2.2.2.2.2.2.2.2.2.2.2; have y0 := hx5.1; have y1 := hx5.2.1; have y2 := hx5.2.2.1; have y3 := hx5.2.2.2.1; have y4 := hx5.2.2.2.2.1; have y5 := hx5.2.2.2.2.2.1; have y6 := hx5.2.2.2.2.2.2.1; have y7 := hx5.2.2.2.2.2.2.2.1; have y8 := hx5.2.2.2.2.2.2.2.2.1; have y9 := hx5.2.2.2.2.2.2.2.2.2.1; have y10 := hx5.2.2.2.2.2.2.2.2.2.2.1; have y11 := hx5.2.2.2.2.2.2.2.2.2.2.2.1; have y12 := hx5.2.2.2.2.2.2.2.2.2.2.2.2.1; have y13 := hx5.2.2.2.2.2.2.2.2.2.2.2.2.2.1; have y14 := hx5.2.2.2.2.2.2.2.2.2.2.2.2.2.2.1; have y15 := hx5.2.2.2.2.2.2.2.2.2.2.2.2.2.2.2; clear hx4 hx5; simp only [Nat.zero_add] at z1 z2 z3 z4 z5 z6 z7 z8 z9 z10 z11 z12 z13 z14 z15; clear hb4)
  | (refine wpList_store_same rfl (.tmp 8) (.tmp 29) rfl w4.heap.size rfl noQuad rfl 36 ((heap_alloc_old _ _ (by simp)).trans (heap_alloc_new w4 _)) ?_))
 go_region
 go_wp2_with fail
 rw [set16_self HM4.out.z]
 obtain ⟨r0, r1, r2, r3⟩ := HM4.out.fin (p : Int) c
 have hb := (((Below.refl _ ((w4.setCell ⟨w.heap.size + 1, 0, none⟩ (.int .i64 (p : Int))).setCell ⟨w.heap.size + 1, 1, none⟩ (.int .i64 c))).alloc (Nat.le_refl _) (.cells #[.int .i64 0, .string ⟨#[]⟩, .string ⟨#[]⟩, .string ⟨#[]⟩, .int .i64 0, .string ⟨#[]⟩, .string ⟨#[]⟩, .string ⟨#[]⟩, .int .i64 0, .string ⟨#[]⟩, .string ⟨#[]⟩, .string ⟨#[]⟩, .int .i64 0, .string ⟨#[]⟩, .string ⟨#[]⟩, .string ⟨#[]⟩] 36)).alloc (by simp) (.cells #[.int .i64 (p : Int), .int .i64 c] 42)).drew
 refine bodyPost_ret (results_ln _ _ _ _ _ _ _ _ rfl rfl rfl (range_below r0 hb) ((hb.cell (p := ⟨w.heap.size + 1, 0, none⟩) (World.block_lt_of_cell? _ _ r1)).trans r1) ((hb.cell (p := ⟨w.heap.size + 1, 1, none⟩) (World.block_lt_of_cell? _ _ r2)).trans r2)) rfl ?_
 exact ⟨rfl, r3.trans (hb.mono r3.size)⟩
set_option maxHeartbeats 2000000 in
theorem ln5 (l : List UInt8) (w : World) (hl : l.length <= 4194304) (k : Nat) (hk : blkF l 0 = k) (hlt : k < l.length) (h35 : l[k] ≠ 35) (hid : blkF l k = k) (q : QuadL) (n m : Nat) (hq : stmtF l k = .inl (q, n)) (hm : blkF l n = m) (hend : m = l.length) :
  Calls Tryz.prog 39 #[.string (B l)] w fun e w' => e = .returned (.tuple #[qv q, .bool true, .agg #[.int .i64 0, .int .i64 0]]) /\ Below w.heap.size w w' := by
 have HM0 : Hid (RlMem w (((w.alloc (.cells #[.int .i64 0, .string ⟨#[]⟩, .string ⟨#[]⟩, .string ⟨#[]⟩, .int .i64 0, .string ⟨#[]⟩, .string ⟨#[]⟩, .string ⟨#[]⟩, .int .i64 0, .string ⟨#[]⟩, .string ⟨#[]⟩, .string ⟨#[]⟩, .int .i64 0, .string ⟨#[]⟩, .string ⟨#[]⟩, .string ⟨#[]⟩] 36)).alloc (.cells #[.int .i64 0, .int .i64 0] 42)).alloc (.cells #[.int .i64 0, .string ⟨#[]⟩, .string ⟨#[]⟩, .string ⟨#[]⟩, .int .i64 0, .string ⟨#[]⟩, .string ⟨#[]⟩, .string ⟨#[]⟩, .int .i64 0, .string ⟨#[]⟩, .string ⟨#[]⟩, .string ⟨#[]⟩, .int .i64 0, .string ⟨#[]⟩, .string ⟨#[]⟩, .string ⟨#[]⟩] 36)) noQuad) := Lib.hid (rlMem_new w)
 have BK : Hid (∀ u, Calls Tryz.prog 62 #[.string (B l), .int .i64 0] u fun e w' => e = .returned (.int .i64 (k : Int)) /\ w' = u) := Lib.hid (fun u => refBlanks_to hk u (Nat.zero_le _) (by omega))
 have k0 : 0 <= (k : Int) := by omega
 have e1 : decide (k < l.length) = true := decide_eq_true hlt
 have e1' : decide ((k : Int) < (l.length : Int)) = true := decide_eq_true (by omega)
 have k1 : (k : Int) < (l.length : Int) := by omega
 have e2 : ((l[k].toNat : Int) != 35) = true := byte_nei (d := 35) h35
 have hn := (stmtF_end hq).2
 have SM := Lib.hid (fun u => refStmt_ok hq u hid (by omega) hl)
 have BK2 := Lib.hid (fun u => refBlanks_to hm u hn (by omega))
 have m0 : 0 <= (m : Int) := by omega
 clear hq hid hk hm h35
 have e5 : ((m : Int) == (l.length : Int)) = true := beq_iff_eq.2 (by omega)
 go_enter Tryz.func39, Tryz.ntmps39
 go_wp2_with (first
  | (go_at_call 62; (with_reducible refine (BK.out _).mono ?_); rintro e w2 ⟨rfl, rfl⟩)
  | (go_at_call 63; (with_reducible refine (SM.out _).mono ?_); rintro e w4 ⟨rfl, hb4⟩; have HM4 := Lib.hid (HM0.out.below hb4); clear hb4)
  | (refine wpList_store_quad rfl (.tmp 8) (.tmp 29) rfl w4.heap.size rfl q rfl 36 (quadC noQuad).toArray rfl ((heap_alloc_old _ _ (by simp)).trans (heap_alloc_new w4 _)) ?_; rw [setRow_alloc_2]; have HM5 := Lib.hid ((HM4.out.below ((Below.refl _ _).alloc (Nat.le_refl _) (.cells (quadC q).toArray 36))).below ((Below.refl _ _).alloc (Nat.le_refl _) (.cells #[.int .i64 0, .int .i64 0] 42))))
  | (refine wpList_load_quad rfl (.tmp 8) rfl w4.heap.size 0 rfl q (range_row ((heap_alloc_old _ _ (by simp)).trans (heap_alloc_new w4 (.cells (quadC q).toArray 36)))) ?_)
  | (refine wpList_store_quad rfl (.tmp 6) (.tmp 37) rfl _ rfl q rfl 36 (quadC noQuad).toArray rfl HM5.out.y ?_; have HM6 := Lib.hid (HM5.out.put q); have hx := cells_two _ w.heap.size (quadC q).toArray HM6.out.f (by omega); have c0 := hx.1; have c1 := hx.2.1; have f0 := hx.2.2.1; have f1 := hx.2.2.2; clear hx; have hg := HM6.out.ltf; have lt0 := HM6.out.ltz)
  | (have _t := HM6; go_at_call 62; (with_reducible refine (BK2.out _).mono ?_); rintro e w2 ⟨rfl, rfl⟩)
  | (have _t := HM6; refine wpList_load_quad rfl (.tmp 6) rfl _ 0 rfl q ?hr ?_; (case hr => exact range_row HM6.out.y))
  | (have _t := HM6; refine wpList_store_quad rfl (.tmp 2) (.tmp 45) rfl _ rfl q rfl ?T1 ?o1 ?hs1 ?hg1 ?_; (case hg1 => exact HM6.out.z); (case hs1 => rfl)))
 obtain ⟨r0, r1, r2, r3⟩ := HM6.out.done q
 refine bodyPost_ret (results_ln _ _ _ _ q true 0 0 rfl rfl rfl r0 r1 r2) rfl ?_
 exact ⟨rfl, r3⟩
set_option maxHeartbeats 2000000 in
theorem ln6 (l : List UInt8) (w : World) (hl : l.length <= 4194304) (k : Nat) (hk : blkF l 0 = k) (hlt : k < l.length) (h35 : l[k] ≠ 35) (hid : blkF l k = k) (q : QuadL) (n m : Nat) (hq : stmtF l k = .inl (q, n)) (hm : blkF l n = m) (hml : m < l.length) (hm35 : l[m] ≠ 35) :
  Calls Tryz.prog 39 #[.string (B l)] w fun e w' => e = .returned (.tuple #[qv noQuad, .bool false, .agg #[.int .i64 (m : Int), .int .i64 90]]) /\ Below w.heap.size w w' := by
 have HM0 : Hid (RlMem w (((w.alloc (.cells #[.int .i64 0, .string ⟨#[]⟩, .string ⟨#[]⟩, .string ⟨#[]⟩, .int .i64 0, .string ⟨#[]⟩, .string ⟨#[]⟩, .string ⟨#[]⟩, .int .i64 0, .string ⟨#[]⟩, .string ⟨#[]⟩, .string ⟨#[]⟩, .int .i64 0, .string ⟨#[]⟩, .string ⟨#[]⟩, .string ⟨#[]⟩] 36)).alloc (.cells #[.int .i64 0, .int .i64 0] 42)).alloc (.cells #[.int .i64 0, .string ⟨#[]⟩, .string ⟨#[]⟩, .string ⟨#[]⟩, .int .i64 0, .string ⟨#[]⟩, .string ⟨#[]⟩, .string ⟨#[]⟩, .int .i64 0, .string ⟨#[]⟩, .string ⟨#[]⟩, .string ⟨#[]⟩, .int .i64 0, .string ⟨#[]⟩, .string ⟨#[]⟩, .string ⟨#[]⟩] 36)) noQuad) := Lib.hid (rlMem_new w)
 have BK : Hid (∀ u, Calls Tryz.prog 62 #[.string (B l), .int .i64 0] u fun e w' => e = .returned (.int .i64 (k : Int)) /\ w' = u) := Lib.hid (fun u => refBlanks_to hk u (Nat.zero_le _) (by omega))
 have k0 : 0 <= (k : Int) := by omega
 have e1 : decide (k < l.length) = true := decide_eq_true hlt
 have e1' : decide ((k : Int) < (l.length : Int)) = true := decide_eq_true (by omega)
 have k1 : (k : Int) < (l.length : Int) := by omega
 have e2 : ((l[k].toNat : Int) != 35) = true := byte_nei (d := 35) h35
 have hn := (stmtF_end hq).2
 have SM := Lib.hid (fun u => refStmt_ok hq u hid (by omega) hl)
 have BK2 := Lib.hid (fun u => refBlanks_to hm u hn (by omega))
 have m0 : 0 <= (m : Int) := by omega
 clear hq hid hk hm h35
 have e5 : ((m : Int) == (l.length : Int)) = false := beq_eq_false_iff_ne.2 (by omega)
 have m1 : (m : Int) < (l.length : Int) := by omega
 have e6 : ((l[m].toNat : Int) != 35) = true := byte_nei (d := 35) hm35
 clear hm35
 go_enter Tryz.func39, Tryz.ntmps39
 go_wp2_with (first
  | (go_at_call 62; (with_reducible refine (BK.out _).mono ?_); rintro e w2 ⟨rfl, rfl⟩)
  | (go_at_call 63; (with_reducible refine (SM.out _).mono ?_); rintro e w4 ⟨rfl, hb4⟩; have HM4 := Lib.hid (HM0.out.below hb4); clear hb4)
  | (refine wpList_store_quad rfl (.tmp 8) (.tmp 29) rfl w4.heap.size rfl q rfl 36 (quadC noQuad).toArray rfl ((heap_alloc_old _ _ (by simp)).trans (heap_alloc_new w4 _)) ?_; rw [setRow_alloc_2]; have HM5 := Lib.hid ((HM4.out.below ((Below.refl _ _).alloc (Nat.le_refl _) (.cells (quadC q).toArray 36))).below ((Below.refl _ _).alloc (Nat.le_refl _) (.cells #[.int .i64 0, .int .i64 0] 42))))
  | (refine wpList_load_quad rfl (.tmp 8) rfl w4.heap.size 0 rfl q (range_row ((heap_alloc_old _ _ (by simp)).trans (heap_alloc_new w4 (.cells (quadC q).toArray 36)))) ?_)
  | (refine wpList_store_quad rfl (.tmp 6) (.tmp 37) rfl _ rfl q rfl 36 (quadC noQuad).toArray rfl HM5.out.y ?_; have HM6 := Lib.hid (HM5.out.put q); have hx := row_two HM6.out.f; have c0 := hx.1; have c1 := hx.2.1; have f0 := hx.2.2.1; have f1 := hx.2.2.2.1; have hg := hx.2.2.2.2; clear hx; have lt0 := HM6.out.ltz)
  | (have _t := HM6; go_at_call 62; (with_reducible refine (BK2.out _).mono ?_); rintro e w2 ⟨rfl, rfl⟩)
  | (have _t := HM6; refine wpList_store_same rfl (.tmp 2) (.tmp 52) rfl _ rfl noQuad rfl ?T1 ?hg1 ?_; (case hg1 => exact HM6.out.z)))
 obtain ⟨r0, r1, r2, r3⟩ := HM6.out.fin (m : Int) 90
 refine bodyPost_ret (results_ln _ _ _ _ _ _ _ _ rfl rfl rfl r0 r1 r2) rfl ?_
 exact ⟨rfl, r3⟩
set_option maxHeartbeats 2000000 in
theorem ln7 (l : List UInt8) (w : World) (hl : l.length <= 4194304) (k : Nat) (hk : blkF l 0 = k) (hlt : k < l.length) (h35 : l[k] ≠ 35) (hid : blkF l k = k) (q : QuadL) (n m : Nat) (hq : stmtF l k = .inl (q, n)) (hm : blkF l n = m) (hml : m < l.length) (hm35 : l[m] = 35) (z : Nat) (hz : utfF (l.drop m) 0 = (z : Int)) :
  Calls Tryz.prog 39 #[.string (B l)] w fun e w' => e = .returned (.tuple #[qv noQuad, .bool false, .agg #[.int .i64 ((m : Int) + (z : Int)), .int .i64 40]]) /\ Below w.heap.size w w' := by
 have HM0 : Hid (RlMem w (((w.alloc (.cells #[.int .i64 0, .string ⟨#[]⟩, .string ⟨#[]⟩, .string ⟨#[]⟩, .int .i64 0, .string ⟨#[]⟩, .string ⟨#[]⟩, .string ⟨#[]⟩, .int .i64 0, .string ⟨#[]⟩, .string ⟨#[]⟩, .string ⟨#[]⟩, .int .i64 0, .string ⟨#[]⟩, .string ⟨#[]⟩, .string ⟨#[]⟩] 36)).alloc (.cells #[.int .i64 0, .int .i64 0] 42)).alloc (.cells #[.int .i64 0, .string ⟨#[]⟩, .string ⟨#[]⟩, .string ⟨#[]⟩, .int .i64 0, .string ⟨#[]⟩, .string ⟨#[]⟩, .string ⟨#[]⟩, .int .i64 0, .string ⟨#[]⟩, .string ⟨#[]⟩, .string ⟨#[]⟩, .int .i64 0, .string ⟨#[]⟩, .string ⟨#[]⟩, .string ⟨#[]⟩] 36)) noQuad) := Lib.hid (rlMem_new w)
 have BK : Hid (∀ u, Calls Tryz.prog 62 #[.string (B l), .int .i64 0] u fun e w' => e = .returned (.int .i64 (k : Int)) /\ w' = u) := Lib.hid (fun u => refBlanks_to hk u (Nat.zero_le _) (by omega))
 have k0 : 0 <= (k : Int) := by omega
 have e1 : decide (k < l.length) = true := decide_eq_true hlt
 have e1' : decide ((k : Int) < (l.length : Int)) = true := decide_eq_true (by omega)
 have k1 : (k : Int) < (l.length : Int) := by omega
 have e2 : ((l[k].toNat : Int) != 35) = true := byte_nei (d := 35) h35
 have hn := (stmtF_end hq).2
 have SM := Lib.hid (fun u => refStmt_ok hq u hid (by omega) hl)
 have BK2 := Lib.hid (fun u => refBlanks_to hm u hn (by omega))
 have m0 : 0 <= (m : Int) := by omega
 clear hq hid hk hm h35
 have e5 : ((m : Int) == (l.length : Int)) = false := beq_eq_false_iff_ne.2 (by omega)
 have m1 : (m : Int) < (l.length : Int) := by omega
 have e6 : ((l[m].toNat : Int) != 35) = false := byte_eqi (d := 35) hm35
 clear hm35
 have hul : utfF (l.drop m) 0 <= (l.length : Int) := utfF_le (l.drop m) l.length (by simp) (l.drop m).length 0 (by omega)
 have CK := Lib.hid (fun u => refCheck_to hz u (by simp; omega))
 have e7 : decide ((0 : Int) <= (z : Int)) = true := decide_eq_true (by omega)
 have hzl : (z : Int) <= (l.length : Int) := by omega
 clear hul hz
 go_enter Tryz.func39, Tryz.ntmps39
 go_wp2_with (first
  | (go_at_call 62; (with_reducible refine (BK.out _).mono ?_); rintro e w2 ⟨rfl, rfl⟩)
  | (go_at_call 63; (with_reducible refine (SM.out _).mono ?_); rintro e w4 ⟨rfl, hb4⟩; have HM4 := Lib.hid (HM0.out.below hb4); clear hb4)
  | (refine wpList_store_quad rfl (.tmp 8) (.tmp 29) rfl w4.heap.size rfl q rfl 36 (quadC noQuad).toArray rfl ((heap_alloc_old _ _ (by simp)).trans (heap_alloc_new w4 _)) ?_; rw [setRow_alloc_2]; have HM5 := Lib.hid ((HM4.out.below ((Below.refl _ _).alloc (Nat.le_refl _) (.cells (quadC q).toArray 36))).below ((Below.refl _ _).alloc (Nat.le_refl _) (.cells #[.int .i64 0, .int .i64 0] 42))))
  | (refine wpList_load_quad rfl (.tmp 8) rfl w4.heap.size 0 rfl q (range_row ((heap_alloc_old _ _ (by simp)).trans (heap_alloc_new w4 (.cells (quadC q).toArray 36)))) ?_)
  | (refine wpList_store_quad rfl (.tmp 6) (.tmp 37) rfl _ rfl q rfl 36 (quadC noQuad).toArray rfl HM5.out.y ?_; have HM6 := Lib.hid (HM5.out.put q); have hx := row_two HM6.out.f; have c0 := hx.1; have c1 := hx.2.1; have f0 := hx.2.2.1; have f1 := hx.2.2.2.1; have hg := hx.2.2.2.2; clear hx; have lt0 := HM6.out.ltz)
  | (have _t := HM6; go_at_call 62; (with_reducible refine (BK2.out _).mono ?_); rintro e w2 ⟨rfl, rfl⟩)
  | (go_at_call 64; (with_reducible refine (CK.out _).mono ?_); rintro e w8 ⟨rfl, hb8⟩; have HM8 := Lib.hid (HM6.out.below hb8); clear hb8; clear c0 c1 f0 f1 hg lt0; have hx := row_two HM8.out.f; have c0 := hx.1; have c1 := hx.2.1; have f0 := hx.2.2.1; have f1 := hx.2.2.2.1; have hg := hx.2.2.2.2; clear hx; have lt0 := HM8.out.ltz)
  | (have _t := HM8; refine wpList_store_same rfl (.tmp 2) (.tmp 61) rfl _ rfl noQuad rfl ?T1 ?hg1 ?_; (case hg1 => exact HM8.out.z)))
 obtain ⟨r0, r1, r2, r3⟩ := HM8.out.fin ((m : Int) + (z : Int)) 40
 refine bodyPost_ret (results_ln _ _ _ _ _ _ _ _ rfl rfl rfl r0 r1 r2) rfl ?_
 exact ⟨rfl, r3⟩
set_option maxHeartbeats 2000000 in
theorem ln8 (l : List UInt8) (w : World) (hl : l.length <= 4194304) (k : Nat) (hk : blkF l 0 = k) (hlt : k < l.length) (h35 : l[k] ≠ 35) (hid : blkF l k = k) (q : QuadL) (n m : Nat) (hq : stmtF l k = .inl (q, n)) (hm : blkF l n = m) (hml : m < l.length) (hm35 : l[m] = 35) (z : Int) (hz : utfF (l.drop m) 0 = z) (hneg : ¬ 0 <= z) :
  Calls Tryz.prog 39 #[.string (B l)] w fun e w' => e = .returned (.tuple #[qv q, .bool true, .agg #[.int .i64 0, .int .i64 0]]) /\ Below w.heap.size w w' := by
 have HM0 : Hid (RlMem w (((w.alloc (.cells #[.int .i64 0, .string ⟨#[]⟩, .string ⟨#[]⟩, .string ⟨#[]⟩, .int .i64 0, .string ⟨#[]⟩, .string ⟨#[]⟩, .string ⟨#[]⟩, .int .i64 0, .string ⟨#[]⟩, .string ⟨#[]⟩, .string ⟨#[]⟩, .int .i64 0, .string ⟨#[]⟩, .string ⟨#[]⟩, .string ⟨#[]⟩] 36)).alloc (.cells #[.int .i64 0, .int .i64 0] 42)).alloc (.cells #[.int .i64 0, .string ⟨#[]⟩, .string ⟨#[]⟩, .string ⟨#[]⟩, .int .i64 0, .string ⟨#[]⟩, .string ⟨#[]⟩, .string ⟨#[]⟩, .int .i64 0, .string ⟨#[]⟩, .string ⟨#[]⟩, .string ⟨#[]⟩, .int .i64 0, .string ⟨#[]⟩, .string ⟨#[]⟩, .string ⟨#[]⟩] 36)) noQuad) := Lib.hid (rlMem_new w)
 have BK : Hid (∀ u, Calls Tryz.prog 62 #[.string (B l), .int .i64 0] u fun e w' => e = .returned (.int .i64 (k : Int)) /\ w' = u) := Lib.hid (fun u => refBlanks_to hk u (Nat.zero_le _) (by omega))
 have k0 : 0 <= (k : Int) := by omega
 have e1 : decide (k < l.length) = true := decide_eq_true hlt
 have e1' : decide ((k : Int) < (l.length : Int)) = true := decide_eq_true (by omega)
 have k1 : (k : Int) < (l.length : Int) := by omega
 have e2 : ((l[k].toNat : Int) != 35) = true := byte_nei (d := 35) h35
 have hn := (stmtF_end hq).2
 have SM := Lib.hid (fun u => refStmt_ok hq u hid (by omega) hl)
 have BK2 := Lib.hid (fun u => refBlanks_to hm u hn (by omega))
 have m0 : 0 <= (m : Int) := by omega
 clear hq hid hk hm h35
 have e5 : ((m : Int) == (l.length : Int)) = false := beq_eq_false_iff_ne.2 (by omega)
 have m1 : (m : Int) < (l.length : Int) := by omega
 have e6 : ((l[m].toNat : Int) != 35) = false := byte_eqi (d := 35) hm35
 clear hm35
 have hul : utfF (l.drop m) 0 <= (l.length : Int) := utfF_le (l.drop m) l.length (by simp) (l.drop m).length 0 (by omega)
 have CK := Lib.hid (fun u => refCheck_to hz u (by simp; omega))
 have e7 : decide ((0 : Int) <= z) = false := decide_eq_false (by omega)
 clear hul hz
 go_enter Tryz.func39, Tryz.ntmps39
 go_wp2_with (first
  | (go_at_call 62; (with_reducible refine (BK.out _).mono ?_); rintro e w2 ⟨rfl, rfl⟩)
  | (go_at_call 63; (with_reducible refine (SM.out _).mono ?_); rintro e w4 ⟨rfl, hb4⟩; have HM4 := Lib.hid (HM0.out.below hb4); clear hb4)
  | (refine wpList_store_quad rfl (.tmp 8) (.tmp 29) rfl w4.heap.size rfl q rfl 36 (quadC noQuad).toArray rfl ((heap_alloc_old _ _ (by simp)).trans (heap_alloc_new w4 _)) ?_; rw [setRow_alloc_2]; have HM5 := Lib.hid ((HM4.out.below ((Below.refl _ _).alloc (Nat.le_refl _) (.cells (quadC q).toArray 36))).below ((Below.refl _ _).alloc (Nat.le_refl _) (.cells #[.int .i64 0, .int .i64 0] 42))))
  | (refine wpList_load_quad rfl (.tmp 8) rfl w4.heap.size 0 rfl q (range_row ((heap_alloc_old _ _ (by simp)).trans (heap_alloc_new w4 (.cells (quadC q).toArray 36)))) ?_)
  | (refine wpList_store_quad rfl (.tmp 6) (.tmp 37) rfl _ rfl q rfl 36 (quadC noQuad).toArray rfl HM5.out.y ?_; have HM6 := Lib.hid (HM5.out.put q); have hx := row_two HM6.out.f; have c0 := hx.1; have c1 := hx.2.1; have f0 := hx.2.2.1; have f1 := hx.2.2.2.1; have hg := hx.2.2.2.2; clear hx; have lt0 := HM6.out.ltz)
  | (have _t := HM6; go_at_call 62; (with_reducible refine (BK2.out _).mono ?_); rintro e w2 ⟨rfl, rfl⟩)
  | (go_at_call 64; (with_reducible refine (CK.out _).mono ?_); rintro e w8 ⟨rfl, hb8⟩; have HM8 := Lib.hid (HM6.out.below hb8); clear hb8; clear c0 c1 f0 f1 hg lt0; have hx := cells_two _ w.heap.size (quadC q).toArray HM8.out.f (by omega); have c0 := hx.1; have c1 := hx.2.1; have f0 := hx.2.2.1; have f1 := hx.2.2.2; clear hx; have hg := HM8.out.ltf; have lt0 := HM8.out.ltz)
  | (have _t := HM8; refine wpList_load_quad rfl (.tmp 6) rfl _ 0 rfl q ?hr ?_; (case hr => exact range_row HM8.out.y))
  | (have _t := HM8; refine wpList_store_quad rfl (.tmp 2) (.tmp 66) rfl _ rfl q rfl ?T1 ?o1 ?hs1 ?hg1 ?_; (case hg1 => exact HM8.out.z); (case hs1 => rfl)))
 obtain ⟨r0, r1, r2, r3⟩ := HM8.out.done q
 refine bodyPost_ret (results_ln _ _ _ _ q true 0 0 rfl rfl rfl r0 r1 r2) rfl ?_
 exact ⟨rfl, r3⟩
theorem restF_at (l : List UInt8) (n m : Nat) (h : blkF l n = m) : restF' l n = if l.length <= m then none else if l.getD m 0 ≠ 35 then some (m, 90) else if 0 <= utfF (l.drop m) 0 then some (m + (utfF (l.drop m) 0).toNat, 40) else none := by unfold restF'; rw [h]
theorem refLine_l (l : List UInt8) (w : World) (hl : l.length <= 4194304) :
  Calls Tryz.prog 39 #[.string (B l)] w fun e w' => e = .returned (lineV (lineAt l)) /\ Below w.heap.size w w' := by
 have hkb := (blkF_bound l l.length 0 (by omega) (Nat.zero_le _)).2
 have hid := blkF_idem l l.length 0 (by omega)
 have HL : lineAt l = if blkF l 0 < l.length /\ l.getD (blkF l 0) 0 ≠ 35 then (match stmtF l (blkF l 0) with
  | .inr f => .inr f
  | .inl (q, n) => match restF' l n with
   | some f => .inr f
   | none => .inl (some q)) else match restF' l 0 with
  | some f => .inr f
  | none => .inl none := rfl
 obtain ⟨k, hk⟩ : ∃ k, blkF l 0 = k := ⟨_, rfl⟩
 rw [hk] at HL hkb hid
 by_cases hlt : k < l.length
 case neg =>
  rw [if_neg (fun h => hlt h.1), restF_at l 0 k hk, if_pos (by omega)] at HL
  rw [HL]
  exact ln1 l w hl k hk hlt hkb
 have hg : l.getD k 0 = l[k] := by simp [List.getD, hlt]
 by_cases h35 : l[k] = 35
 ·rw [if_neg (fun h => h.2 (hg.trans h35)), restF_at l 0 k hk, if_neg (by omega), if_neg (fun h => h (hg.trans h35))] at HL
  by_cases h0 : 0 <= utfF (l.drop k) 0
  ·obtain ⟨z, hz⟩ := Int.eq_ofNat_of_zero_le h0
   rw [if_pos h0, hz] at HL
   rw [HL]
   exact ln2 l w hl k hk hlt h35 z hz
  ·rw [if_neg h0] at HL
   rw [HL]
   exact ln3 l w hl k hk hlt h35 _ rfl h0
 rw [if_pos ⟨hlt, fun h => h35 (hg.symm.trans h)⟩] at HL
 cases hq : stmtF l k with
 | inr f =>
  obtain ⟨p, c⟩ := f
  rw [hq] at HL
  rw [HL]
  exact ln4 l w hl k hk hlt h35 hid p c hq
 | inl f =>
  obtain ⟨q, n⟩ := f
  have hn := (stmtF_end hq).2
  have hmb := (blkF_bound l l.length n (by omega) hn).2
  obtain ⟨m, hm⟩ : ∃ m, blkF l n = m := ⟨_, rfl⟩
  rw [hm] at hmb
  rw [hq] at HL
  simp only [restF_at l n m hm] at HL
  by_cases hend : m = l.length
  ·rw [if_pos (by omega)] at HL
   rw [HL]
   exact ln5 l w hl k hk hlt h35 hid q n m hq hm hend
  rw [if_neg (by omega)] at HL
  have hml : m < l.length := by omega
  have hgm : l.getD m 0 = l[m] := by simp [List.getD, hml]
  by_cases hm35 : l[m] = 35
  case neg =>
   rw [if_pos (fun h => hm35 (hgm.symm.trans h))] at HL
   rw [HL]
   exact ln6 l w hl k hk hlt h35 hid q n m hq hm hml hm35
  rw [if_neg (fun h => h (hgm.trans hm35))] at HL
  by_cases h0 : 0 <= utfF (l.drop m) 0
  ·obtain ⟨z, hz⟩ := Int.eq_ofNat_of_zero_le h0
   rw [if_pos h0, hz] at HL
   rw [HL]
   exact ln7 l w hl k hk hlt h35 hid q n m hq hm hml hm35 z hz
  ·rw [if_neg h0] at HL
   rw [HL]
   exact ln8 l w hl k hk hlt h35 hid q n m hq hm hml hm35 _ rfl h0
end Go.Proofs.YtdegonmkikfghaaGreatDoor
