/-
  The reader of N-Quads: term: a contract. By an AI agent.
-/
import Derived.Test.YtdhmpakhdhdebaaGreatDoorZLabel
namespace Go.Proofs.YtdhmpakhdhdebaaGreatDoor
open Go.RowKit
set_option maxRecDepth 100000
theorem RowAt.other {w : World} {g g' o : Nat} {vs : List Value} (h : RowAt w g vs) (hne : g ≠ g') (v : Value) : RowAt (w.setCell ⟨g', o, none⟩ v) g vs := fun j hj =>
 ⟨by rw [World.cell?_setCell_other _ _ _ _ (fun e => hne (congrArg Addr.block e).symm)]; exact h.cell hj, by rw [World.frozen?_setCell]; exact h.free hj⟩
theorem RowAt.grows {w w' : World} {b g : Nat} {vs : List Value} (h : RowAt w g vs) (h0 : 0 < vs.length) (hg : w.grownBy w' (some b)) (hne : g ≠ b) : RowAt w' g vs := fun j hj => by
 have hlt : g < w.heap.size := World.block_lt_of_cell? _ _ (h.cell h0)
 have e := hg.block g hlt (by simpa using hne)
 refine ⟨?_, ?_⟩
 ·rw [World.cell?_of_block e]; exact h.cell hj
 ·have := h.free hj
  simp only [World.frozen?] at this ⊢
  rw [e]
  exact this
theorem RowAt.four {w : World} {g : Nat} {a b c d : Value} (h : RowAt w g [a, b, c, d]) : w.cell? ⟨g, 0, none⟩ = some a /\ w.cell? ⟨g, 1, none⟩ = some b /\ w.cell? ⟨g, 2, none⟩ = some c /\ w.cell? ⟨g, 3, none⟩ = some d /\ w.frozen? ⟨g, 0, none⟩ = false /\ w.frozen? ⟨g, 1, none⟩ = false /\ w.frozen? ⟨g, 2, none⟩ = false /\ w.frozen? ⟨g, 3, none⟩ = false :=
 ⟨h.cell (j := 0) (by simp), h.cell (j := 1) (by simp), h.cell (j := 2) (by simp), h.cell (j := 3) (by simp), h.free (j := 0) (by simp), h.free (j := 1) (by simp), h.free (j := 2) (by simp), h.free (j := 3) (by simp)⟩
theorem grown_set {w W : World} {r : Option Nat} {R o : Nat} (h : w.grownBy W r) (hR : w.heap.size <= R) (v : Value) : w.grownBy (W.setCell ⟨R, o, none⟩ v) r := by
 refine ⟨h.os, h.tape, h.output, by simpa using h.size, fun k hk hn => ?_⟩
 rw [RowKit.Below.heap_setCell _ _ _ _ (by simp only; omega)]
 exact h.block k hk hn
end Go.Proofs.YtdhmpakhdhdebaaGreatDoor
namespace Go.Proofs.YtdhmpakhdhdebaaGreatDoor
open Go.RowKit
set_option maxRecDepth 100000
theorem assertE (n : Int) (u : World) : (Instr.typeAssert (.iface 74 (.int .i64 n)) 37 74 true).run Tryz.prog u = .ok (.tuple #[.int .i64 n, .bool true]) u := by kernel_rfl
theorem assertBB (a : Option Addr) (u : World) : (Instr.typeAssert (.iface 91 (.pointer a)) 37 91 true).run Tryz.prog u = .ok (.tuple #[.pointer a, .bool true]) u := by kernel_rfl
end Go.Proofs.YtdhmpakhdhdebaaGreatDoor
