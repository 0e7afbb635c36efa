/-
  What lies beside a call's own rows stays: small laws. By an AI agent.
-/
import Derived.Test.YthipcepgbegaiaaDoorZGTag1
import Derived.Test.YthipcepgbegaiaaDoorZLower
import Derived.Test.YthipcepgbegaiaaDoorZApp
import Derived.Test.YthipcepgbegaiaaDoorZParts
import Derived.Test.YthipcepgbegaiaaDoorShelf
namespace Go.Proofs.YthipcepgbegaiaaDoor
open Go.RowKit
set_option maxRecDepth 100000

theorem grown_row {w wr w1 : World} {r row : Option Nat} (h : w.grownBy wr r) (hg : wr.grownBy w1 row) (hr : ∀ k, row = some k → w.heap.size ≤ k) : w.grownBy w1 r :=
  ⟨hg.os.trans h.os, hg.tape.trans h.tape, hg.output.trans h.output, Nat.le_trans h.size hg.size,
    fun k hk hne => (hg.block k (Nat.lt_of_lt_of_le hk h.size) (fun e => by have := hr k e.symm; omega)).trans (h.block k hk hne)⟩
/-- two rows do not share a block -/
def Apart (u v : Value) : Prop := ∀ g, u.ownBlock = some g → v.ownBlock ≠ some g
theorem Apart.nil_left (v : Value) : Apart (.slice none 0 0) v := fun g h => by simp [Value.ownBlock] at h
theorem Apart.nil_right (v : Value) : Apart v (.slice none 0 0) := fun g _ h => by simp [Value.ownBlock] at h
theorem Apart.symm {u v : Value} (h : Apart u v) : Apart v u := fun g h1 h2 => h g h2 h1
theorem Apart.ne {u v : Value} (h : Apart u v) : u.ownBlock = none ∨ u.ownBlock ≠ v.ownBlock := by
  cases hu : u.ownBlock with
  | none => exact .inl rfl
  | some g => exact .inr (fun e => h g hu e.symm)
theorem RowAt.grown {w w' : World} {row : Option Nat} {g : Nat} {vs : List Value} (h : RowAt w g vs) (hg : w.grownBy w' row) (hne : some g ≠ row) (hl : g < w.heap.size) : RowAt w' g vs := fun j hj =>
  ⟨(World.cell?_of_block (a := ⟨g, j, none⟩) (hg.block g hl hne)).trans (h.cell hj), (World.frozen?_of_block (a := ⟨g, j, none⟩) (hg.block g hl hne)).trans (h.free hj)⟩
/-- a row that grows by a part stays apart from another one -/
theorem Apart.grows {u u' v : Value} {n : Nat} (h : Apart u v) (hu : u'.ownBlock = u.ownBlock ∨ u'.ownBlock = some n) (hv : ∀ g, v.ownBlock = some g → g < n) : Apart u' v := fun g h1 h2 => by
  rcases hu with e | e
  · exact h g (e ▸ h1) h2
  · rw [e] at h1
    cases h1
    have := hv _ h2
    omega
theorem contains_map (ls : List (List UInt8)) (x : List UInt8) : Lib.containsS (ls.map B) (B x) = ls.contains x := by
  rw [Bool.eq_iff_iff, Lib.containsS_iff, List.contains_iff_mem, List.mem_map]
  exact ⟨fun ⟨y, hy, he⟩ => B_inj he ▸ hy, fun h => ⟨x, h, rfl⟩⟩
theorem contains_l (ls : List (List UInt8)) (x : List UInt8) (base : Nat) (v : Value) (w : World) (hl : ls.length ≤ 1000000000) (h : w.ownsRow base 9 1 v ls.length (ls.map strV)) :
    Calls Tryd.prog 78 #[v, .string (B x)] w fun e w' => e = .returned (.bool (ls.contains x)) ∧ w' = w := by
  obtain ⟨a, cap, rfl, _, _, hA⟩ := ownsRow_at h
  rcases ls with _ | ⟨y, r⟩
  · exact Tryd.slices_Contains_string_empty a cap (B x) w
  · obtain ⟨b, o, rfl⟩ := hA.place (by simp)
    have h := Tryd.slices_Contains_string b o (y :: r).length cap ((y :: r).map B) (B x) w (by simp) (by omega) (fun j hj => by
      have hj' : j < (y :: r).length := by simpa using hj
      have hc := hA.get (j := j) (by simpa using hj')
      rw [hc, List.getElem_map]
      have hjm : j < ((y :: r).map B).length := by simpa using hj'
      rw [List.getD_eq_getElem?_getD, List.getElem?_eq_getElem hjm, Option.getD_some, List.getElem_map]
      rfl)
    rw [List.take_of_length_le (by simp), contains_map] at h
    exact h
/-- what stands in a cell of a row is what the walk finds there -/
theorem row_of {w : World} {g : Nat} {vs : List Value} (h : RowAt w g vs) (j : Nat) (x : Value) (hx : vs[j]? = some x) : w.cell? ⟨g, j, none⟩ = some x ∧ w.frozen? ⟨g, j, none⟩ = false := by
  obtain ⟨hj, rfl⟩ := List.getElem?_eq_some_iff.1 hx
  exact h j hj
end Go.Proofs.YthipcepgbegaiaaDoor
