/-
  cmp.Or of some numbers; term.literal: contracts. By an AI agent.
-/
import Derived.Test.YthipcepgbegaiaaDoorZIri
import Derived.Test.YthipcepgbegaiaaDoorZTag
import Derived.Test.YthipcepgbegaiaaDoorZLabel
import Derived.Deep.RegionHeld3
namespace Go.Proofs.YthipcepgbegaiaaDoor
open Go.RowKit
set_option maxRecDepth 100000

def termV (t : TermL) : Value := .agg #[.int .i64 t.kind, .string (B t.text), .string (B t.type), .string (B t.lang)]
/-- a boxed term, later -/
structure BoxT (w : World) (k : Value) (x y z : Value) (w' : World) : Prop where
  b : Below w.heap.size w w'
  c0 : w'.cell? ⟨w.heap.size, 0, none⟩ = some k
  c1 : w'.cell? ⟨w.heap.size, 1, none⟩ = some x
  c2 : w'.cell? ⟨w.heap.size, 2, none⟩ = some y
  c3 : w'.cell? ⟨w.heap.size, 3, none⟩ = some z
theorem BoxT.mk0 {w : World} {k x y z : Value} {T : TypeId} : BoxT w k x y z (w.alloc (.cells #[k, x, y, z] T)) :=
  ⟨(Below.refl _ _).alloc (Nat.le_refl _) _, by rw [World.cell?_alloc_new]; rfl, by rw [World.cell?_alloc_new]; rfl, by rw [World.cell?_alloc_new]; rfl, by rw [World.cell?_alloc_new]; rfl⟩
theorem BoxT.later {w w1 w2 : World} {k x y z : Value} (h : BoxT w k x y z w1) (hb : Below w1.heap.size w1 w2) : BoxT w k x y z w2 := by
  have hl : w.heap.size < w1.heap.size := World.block_lt_of_cell? _ _ h.c0
  exact ⟨h.b.trans (hb.mono h.b.size), (hb.cell (p := ⟨w.heap.size, 0, none⟩) hl).trans h.c0, (hb.cell (p := ⟨w.heap.size, 1, none⟩) hl).trans h.c1, (hb.cell (p := ⟨w.heap.size, 2, none⟩) hl).trans h.c2, (hb.cell (p := ⟨w.heap.size, 3, none⟩) hl).trans h.c3⟩
theorem BoxT.alloc {w w1 : World} {k x y z : Value} (h : BoxT w k x y z w1) (o : Obj) : BoxT w k x y z (w1.alloc o) := h.later ((Below.refl _ _).alloc (Nat.le_refl _) _)
theorem BoxT.drewN {w w1 : World} {k x y z : Value} (h : BoxT w k x y z w1) (n : Nat) : BoxT w k x y z (w1.drewN n) := ⟨h.b.trans ((below_drewN w1 n).mono h.b.size), h.c0, h.c1, h.c2, h.c3⟩

set_option maxHeartbeats 800000 in
theorem orErr_l (x y : Int) (g : Nat) (w : World) (h0 : w.cell? ⟨g, 0, none⟩ = some (.int .i64 x)) (h1 : w.cell? ⟨g, 1, none⟩ = some (.int .i64 y)) :
    Calls Tryd.prog 18 #[.slice (some ⟨g, 0, none⟩) 2 2] w fun e w' => e = .returned (.int .i64 (orI x y)) ∧ w' = w := by
  have HX : Hid (orI x y = if x = 0 then y else x) := Lib.hid rfl
  go_enter Tryd.func18, Tryd.ntmps18
  go_wp2_with fail
  go_loop [8] (fun i => i = .int .i64 0 ∨ (i = .int .i64 1 ∧ x = 0) ∨ (i = .int .i64 2 ∧ x = 0 ∧ y = 0)) (fun i => 2 - (intOf i).toNat)
  case atStart => exact .inl rfl
  case round =>
    rcases hrel with rfl | ⟨rfl, hx⟩ | ⟨rfl, hx, hy⟩
    · by_cases hx : x = 0
      · have q : (x != 0) = false := by rw [hx]; rfl
        clear HX
        go_wp2_with fail
        go_round
        case rel => exact .inr (.inl ⟨rfl, hx⟩)
        case measure => simp [intOf]
      · have q : (x != 0) = true := by rw [bne, beq_eq_false_iff_ne.2 hx]; rfl
        have HE : Hid (orI x y = x) := Lib.hid (by rw [HX.out, if_neg hx])
        clear HX hx
        go_wp2_with fail
        go_ret
        exact ⟨ret_i64 HE.out.symm, rfl⟩
    · by_cases hy : y = 0
      · have q : (y != 0) = false := by rw [hy]; rfl
        have HX2 := Lib.hid hx
        clear HX hx
        go_wp2_with fail
        go_round
        case rel => exact .inr (.inr ⟨rfl, HX2.out, hy⟩)
        case measure => simp [intOf]
      · have q : (y != 0) = true := by rw [bne, beq_eq_false_iff_ne.2 hy]; rfl
        have HE : Hid (orI x y = y) := Lib.hid (by rw [HX.out, if_pos hx])
        clear HX hx hy
        go_wp2_with fail
        go_ret
        exact ⟨ret_i64 HE.out.symm, rfl⟩
    · have HE : Hid (orI x y = 0) := Lib.hid (by rw [HX.out, if_pos hx, hy])
      clear HX hx hy
      go_wp2_with fail
      go_ret
      exact ⟨ret_i64 HE.out.symm, rfl⟩
end Go.Proofs.YthipcepgbegaiaaDoor
