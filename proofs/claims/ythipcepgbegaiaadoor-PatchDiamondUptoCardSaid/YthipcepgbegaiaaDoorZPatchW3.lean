/-
  patch.Invert, Compose, Over: contracts. By an AI agent.
-/
import Derived.Test.YthipcepgbegaiaaDoorZPatchW2
namespace Go.Proofs.YthipcepgbegaiaaDoor
open Go.RowKit
set_option maxRecDepth 100000

theorem Neat.minusS {a b : List QuadL} (h : Neat a) : (minusS a b).length ≤ 524288 := Nat.le_trans (minusS_len a b) h.1
theorem held_3 {w w' : World} {x y z u r0 r1 : Value} {T : TypeId} (h : Below (((w.alloc (.cells #[x, y] T)).alloc (.cells #[z, u] T)).alloc (.cells #[r0, r1] T)).heap.size (((w.alloc (.cells #[x, y] T)).alloc (.cells #[z, u] T)).alloc (.cells #[r0, r1] T)) w') :
    Box2 w w.heap.size x y w' ∧ Box2 w (w.heap.size + 1) z u w' ∧ Box2 w (w.heap.size + 1 + 1) r0 r1 w' := by
  have e1 : (w.alloc (.cells #[x, y] T)).heap.size = w.heap.size + 1 := by simp
  have e2 : ((w.alloc (.cells #[x, y] T)).alloc (.cells #[z, u] T)).heap.size = w.heap.size + 1 + 1 := by simp
  have b3 : Box2 w (w.heap.size + 1 + 1) r0 r1 (((w.alloc (.cells #[x, y] T)).alloc (.cells #[z, u] T)).alloc (.cells #[r0, r1] T)) := by
    have := Box2.mk0 (w := (w.alloc (.cells #[x, y] T)).alloc (.cells #[z, u] T)) (x := r0) (y := r1) (T := T)
    rw [e2] at this
    exact ⟨this.c0, this.c1, this.f0, this.f1, this.lt⟩
  have b2 : Box2 w (w.heap.size + 1) z u ((w.alloc (.cells #[x, y] T)).alloc (.cells #[z, u] T)) := by
    have := Box2.mk0 (w := w.alloc (.cells #[x, y] T)) (x := z) (y := u) (T := T)
    rw [e1] at this
    exact ⟨this.c0, this.c1, this.f0, this.f1, this.lt⟩
  have b1 : Box2 w w.heap.size x y (w.alloc (.cells #[x, y] T)) := Box2.mk0
  have s1 : Below (w.alloc (.cells #[x, y] T)).heap.size (w.alloc (.cells #[x, y] T)) ((w.alloc (.cells #[x, y] T)).alloc (.cells #[z, u] T)) := (Below.refl _ _).alloc (Nat.le_refl _) _
  have s2 : Below ((w.alloc (.cells #[x, y] T)).alloc (.cells #[z, u] T)).heap.size ((w.alloc (.cells #[x, y] T)).alloc (.cells #[z, u] T)) (((w.alloc (.cells #[x, y] T)).alloc (.cells #[z, u] T)).alloc (.cells #[r0, r1] T)) := (Below.refl _ _).alloc (Nat.le_refl _) _
  exact ⟨((b1.later s1).later s2).later h, (b2.later s2).later h, b3.later h⟩
theorem two_set {w : World} {b1 g : Nat} {v x y : Value} {l : List QuadL} (h : QOwn b1 v l w) (hg : v.ownBlock ≠ some g) : QOwn b1 v l ((w.setCell ⟨g, 0, none⟩ x).setCell ⟨g, 1, none⟩ y) := ownsRow_set (ownsRow_set h _ _ hg) _ _ hg
theorem block_after {w w3 : World} {cs : Array Value} {T : TypeId} (hb : Below (w.alloc (.cells cs T)).heap.size (w.alloc (.cells cs T)) w3) : w3.heap[w.heap.size]? = some (.cells cs T (0, 0)) := by
  rw [hb.block w.heap.size (by simp)]
  exact heap_alloc_new w _
theorem block_later {w w3 : World} {g : Nat} {o : Obj} (h : w.heap[g]? = some o) (hb : Below w.heap.size w w3) : w3.heap[g]? = some o := by
  rw [hb.block g (Array.getElem?_eq_some_iff.1 h).1]
  exact h
theorem le_alloc {n : Nat} {u w3 : World} {o : Obj} (h : n ≤ u.heap.size) (_ : Below (u.alloc o).heap.size (u.alloc o) w3) : n ≤ (u.alloc o).heap.size := by simp; omega
theorem step_below_d {W u w3 : World} {o : Obj} (h : Below W.heap.size W u) (hb : Below (u.alloc o).drew.heap.size (u.alloc o).drew w3) : Below W.heap.size W w3 :=
  step_below h (show Below (u.alloc o).heap.size (u.alloc o) w3 from (below_drewN (u.alloc o) 1).trans hb)
theorem block_after_d {w w3 : World} {cs : Array Value} {T : TypeId} (hb : Below (w.alloc (.cells cs T)).drew.heap.size (w.alloc (.cells cs T)).drew w3) : w3.heap[w.heap.size]? = some (.cells cs T (0, 0)) := by
  rw [hb.block w.heap.size (by simp)]
  exact heap_alloc_new w _
theorem le_alloc_d {n : Nat} {u w3 : World} {o : Obj} (h : n ≤ u.heap.size) (_ : Below (u.alloc o).drew.heap.size (u.alloc o).drew w3) : n ≤ (u.alloc o).drew.heap.size := by simp; omega
theorem alloc_trans {w w3 : World} {o : Obj} (hb : Below (w.alloc o).heap.size (w.alloc o) w3) : Below w.heap.size w w3 := ((Below.refl _ w).alloc (Nat.le_refl _) o).trans (hb.mono (by simp))
theorem row2 {w : World} {g : Nat} {x y : Value} {T : TypeId} (h : w.heap[g]? = some (.cells #[x, y] T (0, 0))) : w.cell? ⟨g, 0, none⟩ = some x ∧ w.cell? ⟨g, 1, none⟩ = some y ∧ w.frozen? ⟨g, 0, none⟩ = false ∧ w.frozen? ⟨g, 1, none⟩ = false :=
  ⟨cell_of_row w g 0 _ T _ h, cell_of_row w g 1 _ T _ h, frozen_of_row w g 0 _ T h, frozen_of_row w g 1 _ T h⟩
theorem set_below {W u : World} {g : Nat} {o : Obj} (h : Below W.heap.size W u) (_ : u.heap[g]? = some o) (hs : W.heap.size ≤ g) (a b : Value) : Below W.heap.size W ((u.setCell ⟨g, 0, none⟩ a).setCell ⟨g, 1, none⟩ b) :=
  (h.setCell (p := ⟨g, 0, none⟩) hs a).setCell (p := ⟨g, 1, none⟩) hs b
theorem row2_set {w : World} {g : Nat} {x y u v : Value} {T : TypeId} (h : w.heap[g]? = some (.cells #[x, y] T (0, 0))) : ((w.setCell ⟨g, 0, none⟩ u).setCell ⟨g, 1, none⟩ v).cell? ⟨g, 0, none⟩ = some u ∧ ((w.setCell ⟨g, 0, none⟩ u).setCell ⟨g, 1, none⟩ v).cell? ⟨g, 1, none⟩ = some v := by
  obtain ⟨a, b, c, d⟩ := row2 h
  have B : Box2 w g x y w := ⟨a, b, c, d, (Array.getElem?_eq_some_iff.1 h).1⟩
  exact ⟨B.stored.c0, B.stored.c1⟩
/-- a row of quads is no box of a patch -/
theorem own_type {w : World} {b1 : Nat} {v : Value} {l : List QuadL} {g : Nat} {cs : Array Value} {fr : Nat × Nat} (h : QOwn b1 v l w) (hb : w.heap[g]? = some (.cells cs 26 fr)) : v.ownBlock ≠ some g := by
  intro e
  rcases h.2 with ⟨rfl, _⟩ | ⟨g', cap, cur, rfl, h1, h2, _⟩
  · simp [Value.ownBlock] at e
  · simp [Value.ownBlock] at e
    subst e
    rw [hb] at h2
    simp at h2
/-- Compose's last stores -/
theorem compose_fin {w W w13 : World} {g gb : Nat} {a b : List QuadL} {mv pv x y : Value} {cs : Array Value} {fr : Nat × Nat} (hW : Below w.heap.size w W) (hg : w.heap.size ≤ g) (hgW : g < W.heap.size) (hm : QOwn W.heap.size mv a w13) (hp : QOwn W.heap.size pv b w13) (ap : Apart mv pv)
    (hb : w13.heap[gb]? = some (.cells cs 26 fr)) (hgb : W.heap.size ≤ gb) (bw : Below W.heap.size W w13) :
    PFresh w.heap.size mv pv ⟨a, b⟩ ((((w13.setCell ⟨gb, 0, none⟩ x).setCell ⟨gb, 1, none⟩ y).setCell ⟨g, 0, none⟩ mv).setCell ⟨g, 1, none⟩ pv) ∧ Below w.heap.size w ((((w13.setCell ⟨gb, 0, none⟩ x).setCell ⟨gb, 1, none⟩ y).setCell ⟨g, 0, none⟩ mv).setCell ⟨g, 1, none⟩ pv) := by
  have s0 := hW.size
  refine ⟨⟨(two_set (two_set hm (own_type hm hb)) (fun e => by have := own_base hm _ e; omega)).less s0, (two_set (two_set hp (own_type hp hb)) (fun e => by have := own_base hp _ e; omega)).less s0, ap⟩, ?_⟩
  have h0 : w.heap.size ≤ gb := by omega
  exact ((((hW.trans (bw.mono s0)).setCell (p := ⟨gb, 0, none⟩) h0 _).setCell (p := ⟨gb, 1, none⟩) h0 _).setCell (p := ⟨g, 0, none⟩) hg _).setCell (p := ⟨g, 1, none⟩) hg _
theorem compose_fin2 {w W w13 : World} {g : Nat} {a b : List QuadL} {mv pv : Value} {o : Obj} (hW : Below w.heap.size w W) (hg : w.heap.size ≤ g) (hgW : g < W.heap.size) (hm : QOwn W.heap.size mv a w13) (hp : QOwn W.heap.size pv b w13) (ap : Apart mv pv) (bw : Below W.heap.size W w13) :
    PFresh w.heap.size mv pv ⟨a, b⟩ (((w13.alloc o).setCell ⟨g, 0, none⟩ mv).setCell ⟨g, 1, none⟩ pv) ∧ Below w.heap.size w (((w13.alloc o).setCell ⟨g, 0, none⟩ mv).setCell ⟨g, 1, none⟩ pv) := by
  have s0 := hW.size
  have ha : Below w13.heap.size w13 (w13.alloc o) := (Below.refl _ _).alloc (Nat.le_refl _) _
  refine ⟨⟨(two_set (hm.below ha) (fun e => by have := own_base hm _ e; omega)).less s0, (two_set (hp.below ha) (fun e => by have := own_base hp _ e; omega)).less s0, ap⟩, ?_⟩
  exact (((hW.trans (bw.mono s0)).alloc (Nat.le_trans s0 bw.size) _).setCell (p := ⟨g, 0, none⟩) hg _).setCell (p := ⟨g, 1, none⟩) hg _
end Go.Proofs.YthipcepgbegaiaaDoor
