/-
  Rows of quads that a call makes for itself; slices of quads seen as lists; append of one quad. By an AI agent.
-/
import Derived.Test.YthipcepgbegaiaaDoorZQuad0
import Derived.Test.YthipcepgbegaiaaDoorZApp
import Derived.Test.YthipcepgbegaiaaDoorZView
import Derived.Test.YthipcepgbegaiaaDoorProg
namespace Go.Proofs.YthipcepgbegaiaaDoor
open Go.RowKit
set_option maxRecDepth 100000

theorem infoQ : (Tryd.prog.info? 42).map (fun i => (i.zero, i.size, i.bytes)) = some (some (.agg (quadC ⟨noTerm, noTerm, noTerm, noTerm⟩).toArray), 16, 224) := by kernel_rfl
/-- a row of the call's own that holds these quads -/
def QOwn (base : Nat) (v : Value) (l : List QuadL) (w : World) : Prop := w.ownsRow base 42 16 v l.length (quadsC l)
theorem QOwn.nil (base : Nat) (w : World) : QOwn base (.slice none 0 0) [] w := World.ownsRow_nil _ _ _ _
theorem QOwn.below {base : Nat} {v : Value} {l : List QuadL} {w w' : World} (h : QOwn base v l w) (hb : Below w.heap.size w w') : QOwn base v l w' := ownsRow_below h hb
theorem own_base {w : World} {base : Nat} {e : TypeId} {s : Nat} {v : Value} {n : Nat} {xs : List Value} (h : w.ownsRow base e s v n xs) : ∀ k, v.ownBlock = some k → base ≤ k := by
  intro k hk
  rcases h.2 with ⟨rfl, _⟩ | ⟨g, cap, cur, rfl, h1, _⟩
  · simp [Value.ownBlock] at hk
  · simp [Value.ownBlock] at hk
    omega
theorem QOwn.at {base : Nat} {v : Value} {l : List QuadL} {w : World} (h : QOwn base v l w) : ∃ a cap, v = .slice a l.length cap ∧ l.length ≤ cap ∧ QAt w a l := by
  rcases h.2 with ⟨rfl, h2⟩ | ⟨g, cap, cur, rfl, _, _, hn, _⟩
  · have : l.length = 0 := by have := quadsC_len l; have := h.1; rw [h2] at this; simp at this; omega
    obtain rfl := List.eq_nil_of_length_eq_zero this
    exact ⟨none, 0, rfl, Nat.le_refl _, QAt.nil _ _⟩
  · refine ⟨_, cap, rfl, hn, fun j hj => ⟨g, 0, rfl, ?_⟩⟩
    have := h.cells (g := g) rfl j (quadsC l)[j] (List.getElem?_eq_getElem hj)
    rw [add0] at this
    rw [Nat.zero_add]
    exact this
theorem oneCell_quad (q : QuadL) : ∀ u ∈ quadC q, u.oneCell' = true := by
  intro u hu
  simp [quadC, termC] at hu
  rcases hu with rfl | rfl | rfl | rfl | rfl | rfl | rfl | rfl | rfl | rfl | rfl | rfl | rfl | rfl | rfl | rfl <;> rfl
theorem cell_row (w : World) (l : List Value) (t : TypeId) : ∀ j u, l[j]? = some u → (w.alloc (.cells l.toArray t)).cell? ((⟨w.heap.size, 0, none⟩ : Addr).add j) = some u := by
  intro j u h
  rw [add0, World.cell?_alloc_new]
  simpa using h
theorem wpList_append_quad {ops : Array Oper} {rest : List Oper} {o : Oper} {a : Act} {w : World} {Q : Exit → Act → World → Prop} (hgd : o.guard = none) (s x : Operand)
    (ho : o.op = .call { callee := .builtin .append, args := #[s, x], argTypes := #[22, 22] })
    (base : Nat) (v : Value) (l : List QuadL) (hs : a.eval s = v) (w0 : World) (hown : QOwn base v l w0) (q : QuadL) (T : TypeId) (hw : w = w0.alloc (.cells (quadC q).toArray T))
    (hx : a.eval x = .slice (some ⟨w0.heap.size, 0, none⟩) 1 1) (hl : l.length ≤ 4194304) (u : World) (hu : Below base u w0) (hbase : base ≤ w0.heap.size)
    (h : ∀ v' w', QOwn base v' (l ++ [q]) w' → Below base u w' → wpList Tryd.prog ops Q rest (a.put o.dst v') w') : wpList Tryd.prog ops Q (o :: rest) a w := by
  subst hw
  obtain ⟨i0, hi, hz0, hz1, hz2⟩ := info_parts infoQ
  have e1 : (quadsC l) ++ quadC q = quadsC (l ++ [q]) := by rw [quadsC_append]; simp [quadsC]
  refine wpList_append_own (P := Tryd.prog) _ hgd s x 22 ho base 42 i0 _ 16 224 Tryd.underlying22 hi hz0 hz1 hz2 rfl (by decide) v l.length (quadsC l) hs (hown.alloc _)
    ⟨w0.heap.size, 0, none⟩ 1 1 (quadC q) hx rfl (cell_row w0 (quadC q) T) (oneCell_quad q) (by unfold maxLen; omega) (by omega) (by simp; omega) ?_
  intro v' w' h1 h2 _
  refine h v' w' ?_ ?_
  · unfold QOwn
    rw [← e1, List.length_append, List.length_singleton]
    exact h1
  · exact (hu.alloc hbase _).grown h2 (by simp; omega) (fun k hk => own_base hown k hk)
/-- a slice of quads seen as a list -/
def QView (w : World) (v : Value) (l : List QuadL) : Prop := ∃ a cap, v = .slice a l.length cap ∧ l.length ≤ cap ∧ QAt w a l
theorem QOwn.view {base : Nat} {v : Value} {l : List QuadL} {w : World} (h : QOwn base v l w) : QView w v l := h.at
theorem QView.below {w w' : World} {v : Value} {l : List QuadL} (h : QView w v l) (hb : Below w.heap.size w w') : QView w' v l := by
  obtain ⟨a, cap, rfl, hc, hq⟩ := h
  exact ⟨a, cap, rfl, hc, hq.below hb⟩
/-- what l[1:] is -/
def tailQ (b o n cap : Nat) : Value := sliced (some ⟨b, o, none⟩) 1 n cap 16
theorem QView.cons {w : World} {v : Value} {q : QuadL} {l : List QuadL} (h : QView w v (q :: l)) :
    ∃ b o cap, v = .slice (some ⟨b, o, none⟩) (l.length + 1) cap ∧ l.length + 1 ≤ cap ∧ w.rangeAt b o (quadC q) ∧ QView w (tailQ b o (l.length + 1) cap) l := by
  obtain ⟨a, cap, rfl, hc, hq⟩ := h
  obtain ⟨b, o, rfl⟩ := hq.place (by simp)
  refine ⟨b, o, cap, rfl, hc, hq.head, ?_⟩
  by_cases h1 : cap = 1
  · subst h1
    have : l = [] := List.length_eq_zero_iff.1 (by rw [List.length_cons] at hc; omega)
    subst this
    exact ⟨some ⟨b, o, none⟩, 0, by simp [tailQ, sliced], Nat.le_refl _, QAt.nil _ _⟩
  · exact ⟨some ⟨b, o + 16, none⟩, cap - 1, by simp [tailQ, sliced, h1, Addr.add], by simp at hc; omega, hq.tail⟩
theorem QView.empty {w : World} {v : Value} (h : QView w v []) : ∃ a cap, v = .slice a 0 cap := by
  obtain ⟨a, cap, rfl, _⟩ := h
  exact ⟨a, cap, rfl⟩
theorem QView.len {w : World} {v : Value} {l : List QuadL} (h : QView w v l) : lenV v = l.length := by
  obtain ⟨a, cap, rfl, _⟩ := h
  rfl
theorem run_tailQ (b o n cap : Nat) (hn : 1 ≤ n) (w : World) :
    (Instr.slice 22 (.slice (some ⟨b, o, none⟩) n cap) (some (.int .i64 1)) none none).run Tryd.prog w = .ok (tailQ b o n cap) w := by
  have he : Tryd.prog.elem 22 = 42 := by kernel_rfl
  have hz : (Go.sizeOf 42).run Tryd.prog w = .ok 16 w := by kernel_rfl
  rw [run_slice_l w 22 _ n cap (by rw [he]; exact Tryd.underlying22) .i64 1 (by decide) (by omega), he, hz]
  rfl
end Go.Proofs.YthipcepgbegaiaaDoor
