/-
  term.Compare, term.CompareQuads: contracts. By an AI agent.
-/
import Derived.Test.YtdegonmkikfghaaGreatDoorZLabel
import Derived.Test.YtdegonmkikfghaaGreatDoorZStill
namespace Go.Proofs.YtdegonmkikfghaaGreatDoor
open Lib (hid)
open Go.RowKit
set_option maxRecDepth 100000
set_option maxHeartbeats 1600000 in
theorem orInt_l (x y z u : Int) (g : Nat) (w : World) (h0 : w.cell? ⟨g, 0, none⟩ = some (.int .i64 x)) (h1 : w.cell? ⟨g, 1, none⟩ = some (.int .i64 y)) (h2 : w.cell? ⟨g, 2, none⟩ = some (.int .i64 z)) (h3 : w.cell? ⟨g, 3, none⟩ = some (.int .i64 u)) :
  Calls Tryz.prog 74 #[.slice (some ⟨g, 0, none⟩) 4 4] w fun e w' => e = .returned (.int .i64 (orI x (orI y (orI z u)))) /\ w' = w := by
 have HX : Hid (orI x (orI y (orI z u)) = if x = 0 then (if y = 0 then (if z = 0 then u else z) else y) else x) := hid rfl
 have fin : ∀ (v : Int) (i : Nat), (v != 0) = true \/ (v != 0) = false := fun v _ => by cases (v != 0) <;> simp
 clear fin
 go_enter Tryz.func74, Tryz.ntmps74
 go_wp2_with fail
 go_loop [8] (fun i => i = .int .i64 0 \/ (i = .int .i64 1 /\ x = 0) \/ (i = .int .i64 2 /\ x = 0 /\ y = 0) \/ (i = .int .i64 3 /\ x = 0 /\ y = 0 /\ z = 0) \/ (i = .int .i64 4 /\ x = 0 /\ y = 0 /\ z = 0 /\ u = 0)) (fun i => 4 - (intOf i).toNat)
 case atStart => exact .inl rfl
 case round =>
  rcases hrel with rfl | ⟨rfl, hx⟩ | ⟨rfl, hx, hy⟩ | ⟨rfl, hx, hy, hz⟩ | ⟨rfl, hx, hy, hz, hu⟩
  ·by_cases e : x = 0
   ·have q : (x != 0) = false := by rw [e]; rfl
    have E := hid e
    clear HX e
    go_wp2_with fail
    go_round
    case rel => exact .inr (.inl ⟨rfl, E.out⟩)
    case measure => simp [intOf]
   ·have q : (x != 0) = true := by rw [bne, beq_eq_false_iff_ne.2 e]; rfl
    have HE : Hid (orI x (orI y (orI z u)) = x) := hid (by rw [HX.out, if_neg e])
    clear HX e
    go_wp2_with fail
    go_ret
    exact ⟨ret_i64 HE.out.symm, rfl⟩
  ·have HH := hid hx
   clear hx
   by_cases e : y = 0
   ·have q : (y != 0) = false := by rw [e]; rfl
    have E := hid e
    clear HX e
    go_wp2_with fail
    go_round
    case rel => exact .inr (.inr (.inl ⟨rfl, HH.out, E.out⟩))
    case measure => simp [intOf]
   ·have q : (y != 0) = true := by rw [bne, beq_eq_false_iff_ne.2 e]; rfl
    have HE : Hid (orI x (orI y (orI z u)) = y) := hid (by rw [HX.out, if_pos HH.out, if_neg e])
    clear HX e
    go_wp2_with fail
    go_ret
    exact ⟨ret_i64 HE.out.symm, rfl⟩
  ·have HH := hid (And.intro hx hy)
   clear hx hy
   by_cases e : z = 0
   ·have q : (z != 0) = false := by rw [e]; rfl
    have E := hid e
    clear HX e
    go_wp2_with fail
    go_round
    case rel => exact .inr (.inr (.inr (.inl ⟨rfl, HH.out.1, HH.out.2, E.out⟩)))
    case measure => simp [intOf]
   ·have q : (z != 0) = true := by rw [bne, beq_eq_false_iff_ne.2 e]; rfl
    have HE : Hid (orI x (orI y (orI z u)) = z) := hid (by rw [HX.out, if_pos HH.out.1, if_pos HH.out.2, if_neg e])
    clear HX e
    go_wp2_with fail
    go_ret
    exact ⟨ret_i64 HE.out.symm, rfl⟩
  ·have HH := hid (And.intro hx (And.intro hy hz))
   clear hx hy hz
   by_cases e : u = 0
   ·have q : (u != 0) = false := by rw [e]; rfl
    have E := hid e
    clear HX e
    go_wp2_with fail
    go_round
    case rel => exact .inr (.inr (.inr (.inr ⟨rfl, HH.out.1, HH.out.2.1, HH.out.2.2, E.out⟩)))
    case measure => simp [intOf]
   ·have q : (u != 0) = true := by rw [bne, beq_eq_false_iff_ne.2 e]; rfl
    have HE : Hid (orI x (orI y (orI z u)) = u) := hid (by rw [HX.out, if_pos HH.out.1, if_pos HH.out.2.1, if_pos HH.out.2.2])
    clear HX e
    go_wp2_with fail
    go_ret
    exact ⟨ret_i64 HE.out.symm, rfl⟩
  ·have HE : Hid (orI x (orI y (orI z u)) = 0) := hid (by rw [HX.out, if_pos hx, if_pos hy, if_pos hz, hu])
   clear HX hx hy hz hu
   go_wp2_with fail
   go_ret
   exact ⟨ret_i64 HE.out.symm, rfl⟩
theorem strCmp_l (a b : List UInt8) (w : World) : Calls Tryz.prog 112 #[.string (B a), .string (B b)] w fun e w' => e = .returned (.int .i64 (Lib.compareBytes a b)) /\ w' = w := by
 have := Tryz.strings_Compare (B a) (B b) w
 rw [B_toList, B_toList] at this
 exact this
end Go.Proofs.YtdegonmkikfghaaGreatDoor
namespace Go.Proofs.YtdegonmkikfghaaGreatDoor
open Lib (hid)
open Go.RowKit
set_option maxRecDepth 100000
theorem quadC_cells (q : QuadL) : (quadC q).toArray = #[.int .i64 q.s.kind, .string (B q.s.text), .string (B q.s.type), .string (B q.s.lang), .int .i64 q.p.kind, .string (B q.p.text), .string (B q.p.type), .string (B q.p.lang), .int .i64 q.o.kind, .string (B q.o.text), .string (B q.o.type), .string (B q.o.lang), .int .i64 q.g.kind, .string (B q.g.text), .string (B q.g.type), .string (B q.g.lang)] := rfl
theorem held2 {w W w' : World} {A C : Array Value} {T : TypeId} (e : (w.alloc (.cells A T)).alloc (.cells C T) = W) (h : Below W.heap.size W w') :
  (∀ j x, A[j]? = some x -> w'.cell? ⟨w.heap.size, j, none⟩ = some x) /\ (∀ j x, C[j]? = some x -> w'.cell? ⟨w.heap.size + 1, j, none⟩ = some x) := by
 subst e
 refine ⟨fun j x hx => ?_, fun j x hx => ?_⟩
 ·rw [h.cell (p := ⟨w.heap.size, j, none⟩) (by simp; omega)]
  rw [show ((w.alloc (.cells A T)).alloc (.cells C T)).cell? ⟨w.heap.size, j, none⟩ = (w.alloc (.cells A T)).cell? ⟨w.heap.size, j, none⟩ from ((Below.refl _ _).alloc (Nat.le_refl _) _ : Below (w.alloc (.cells A T)).heap.size (w.alloc (.cells A T)) _).cell (p := ⟨w.heap.size, j, none⟩) (by simp), World.cell?_alloc_new]
  exact hx
 ·rw [h.cell (p := ⟨w.heap.size + 1, j, none⟩) (by simp)]
  have := World.cell?_alloc_new (w.alloc (.cells A T)) C T j
  rw [World.size_alloc] at this
  rw [this]
  exact hx
end Go.Proofs.YtdegonmkikfghaaGreatDoor
