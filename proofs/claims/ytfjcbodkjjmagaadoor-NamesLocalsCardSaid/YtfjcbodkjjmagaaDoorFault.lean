/-
  tesseralaw06.fault: contract. By an AI agent.
-/
import Derived.Test.YtfjcbodkjjmagaaDoorAs
import Derived.Test.YtfjcbodkjjmagaaDoorRefLocal
import Derived.RangeFuncBox

namespace Go.Proofs.YtfjcbodkjjmagaaDoor
open Go.RowKit
set_option maxRecDepth 100000

/-- errors.errorType holds the type error -/
def ErrType (w : World) : Prop := w.cell? ⟨1, 0, none⟩ = some (.iface 142 (.agg #[.pointer (some ⟨5, 33, none⟩)]))
theorem ErrType.below {w w' : World} (h : ErrType w) (hb : Below w.heap.size w w') : ErrType w' := by
  unfold ErrType
  rw [hb.cell (World.block_lt_of_cell? _ _ h)]
  exact h
theorem grownBy_trans {w v u : World} {r : Option Nat} (h : w.grownBy v r) (h2 : v.grownBy u r) : w.grownBy u r :=
  ⟨h2.1.trans h.1, h2.2.trans h.2, h2.3.trans h.3, Nat.le_trans h.4 h2.4, fun b hb hn => (h2.5 b (Nat.lt_of_lt_of_le hb h.4) hn).trans (h.5 b hb hn)⟩
theorem frozen_grown {w w' : World} {row : Option Nat} {b o : Nat} (h : b < w.heap.size) (hg : w.grownBy w' row) (hne : some b ≠ row) : w'.frozen? ⟨b, o, none⟩ = w.frozen? ⟨b, o, none⟩ := by
  have e := hg.block b h hne
  simp [World.frozen?, e]
/-- what a call of errors.As that hits does: the target's cell is set, no other old block turns -/
def Hit (w w' : World) (b : Nat) (v : Value) : Prop := w'.cell? ⟨b, 0, none⟩ = some v ∧ w'.frozen? ⟨b, 0, none⟩ = false ∧ Below b w w' ∧ w.grownBy w' (some b)
theorem hit_mk (w : World) (o1 o2 o3 o4 : Obj) (b : Nat) (v old : Value) (hc : w.cell? ⟨b, 0, none⟩ = some old) (hf : w.frozen? ⟨b, 0, none⟩ = false) : Hit w (((((w.alloc o1).alloc o2).alloc o3).alloc o4).setCell ⟨b, 0, none⟩ v) b v := by
  have hlt := World.block_lt_of_cell? _ _ hc
  have hB : Below w.heap.size w ((((w.alloc o1).alloc o2).alloc o3).alloc o4) := ((((Below.refl w.heap.size w).alloc (Nat.le_refl _) _).alloc (by simp) _).alloc (by simp; omega) _).alloc (by simp; omega) _
  have hc2 := (hB.cell hlt).trans hc
  have hf2 := (hB.frozen hlt).trans hf
  refine ⟨World.cell?_setCell_same' _ _ _ (by rw [hc2]; rfl), by rw [World.frozen?_setCell]; exact hf2, (hB.mono (Nat.le_of_lt hlt)).setCell (Nat.le_refl _) _, ?_⟩
  exact grownBy_trans (grownBy_trans (grownBy_trans (grownBy_trans (World.grownBy_alloc w o1 _) (World.grownBy_alloc _ o2 _)) (World.grownBy_alloc _ o3 _)) (World.grownBy_alloc _ o4 _)) (grownBy_setCell' _ b v)
theorem Hit.cell {w w' : World} {b c o : Nat} {v x : Value} (h : Hit w w' b v) (hx : w.cell? ⟨c, o, none⟩ = some x) (hne : c ≠ b) : w'.cell? ⟨c, o, none⟩ = some x := cell_grown hx h.2.2.2 (by simpa using hne)
theorem Hit.frozen {w w' : World} {b c o : Nat} {v : Value} (h : Hit w w' b v) (hc : c < w.heap.size) (hx : w.frozen? ⟨c, o, none⟩ = false) (hne : c ≠ b) : w'.frozen? ⟨c, o, none⟩ = false := (frozen_grown hc h.2.2.2 (by simpa using hne)).trans hx
theorem as_B (e : Addr) (b : Nat) (old : Value) (w : World) (hE : ErrType w) (hc : w.cell? ⟨b, 0, none⟩ = some old) (hf : w.frozen? ⟨b, 0, none⟩ = false) :
    Calls Tryd.prog 64 #[.iface 87 (.pointer (some e)), .iface 89 (.pointer (some ⟨b, 0, none⟩))] w fun ev w' => ev = .returned (.bool true) ∧ Hit w w' b (.pointer (some e)) := by
  refine (as_hitB e ⟨b, 0, none⟩ old w hE hc hf).mono ?_
  rintro ev w' ⟨rfl, rfl⟩
  exact ⟨rfl, hit_mk w _ _ _ _ b _ old hc hf⟩
theorem as_E (n : Int) (b : Nat) (old : Value) (w : World) (hE : ErrType w) (hc : w.cell? ⟨b, 0, none⟩ = some old) (hf : w.frozen? ⟨b, 0, none⟩ = false) :
    Calls Tryd.prog 64 #[.iface 25 (.int .i64 n), .iface 92 (.pointer (some ⟨b, 0, none⟩))] w fun ev w' => ev = .returned (.bool true) ∧ Hit w w' b (.int .i64 n) := by
  refine (as_hitE n ⟨b, 0, none⟩ old w hE hc hf).mono ?_
  rintro ev w' ⟨rfl, rfl⟩
  exact ⟨rfl, hit_mk w _ _ _ _ b _ old hc hf⟩

def faultV : List UInt8 ⊕ (Nat × Int) → Value
  | .inl _ => .agg #[.int .i64 0, .int .i64 0]
  | .inr (p, n) => .agg #[.int .i64 (p : Int), .int .i64 n]

set_option maxHeartbeats 1600000 in
theorem fault_l (x : List UInt8 ⊕ (Nat × Int)) (v : Value) (w : World) (hE : ErrType w) (h : ErrIs w v x) :
    Calls Tryd.prog 28 #[v] w fun e w' => e = .returned (faultV x) ∧ Below w.heap.size w w' := by
  rcases x with t | ⟨p, n⟩
  · obtain rfl : v = .nilIface := h
    go_enter Tryd.func28, Tryd.ntmps28
    go_wp2_with fail
    refine bodyPost_ret (v := .agg #[.int .i64 0, .int .i64 0]) (by simp [results, Tryd.results28, go_sem]) rfl ?_
    exact ⟨rfl, (Below.refl _ _).alloc (Nat.le_refl _) _⟩
  obtain ⟨b, rfl, h1, h2⟩ := h
  have AB := Lib.hid as_B
  have AE := Lib.hid as_E
  have hbl : b < w.heap.size := World.block_lt_of_cell? _ _ h1
  have hgl : 1 < w.heap.size := World.block_lt_of_cell? _ _ hE
  obtain ⟨W3, hW3⟩ : ∃ W3, ((w.alloc (.cells #[.int .i64 0, .int .i64 0] 37)).alloc (.cells #[.pointer none] 87)).alloc (.cells #[.int .i64 0] 25) = W3 := ⟨_, rfl⟩
  have hB3 : Below w.heap.size w W3 := by rw [← hW3]; exact (((Below.refl w.heap.size w).alloc (Nat.le_refl _) _).alloc (by simp) _).alloc (by simp; omega) _
  have hx1 : Below (w.alloc (.cells #[.int .i64 0, .int .i64 0] 37)).heap.size (w.alloc (.cells #[.int .i64 0, .int .i64 0] 37)) W3 := by rw [← hW3]; exact ((Below.refl _ _).alloc (Nat.le_refl _) _).alloc (by simp) _
  have hx2 : Below ((w.alloc (.cells #[.int .i64 0, .int .i64 0] 37)).alloc (.cells #[.pointer none] 87)).heap.size ((w.alloc (.cells #[.int .i64 0, .int .i64 0] 37)).alloc (.cells #[.pointer none] 87)) W3 := by rw [← hW3]; exact (Below.refl _ _).alloc (Nat.le_refl _) _
  have hx3 : Below (((w.alloc (.cells #[.int .i64 0, .int .i64 0] 37)).alloc (.cells #[.pointer none] 87)).alloc (.cells #[.int .i64 0] 25)).heap.size (((w.alloc (.cells #[.int .i64 0, .int .i64 0] 37)).alloc (.cells #[.pointer none] 87)).alloc (.cells #[.int .i64 0] 25)) W3 := by rw [← hW3]; exact Below.refl _ _
  have a0 : W3.cell? ⟨w.heap.size, 0, none⟩ = some (.int .i64 0) := new_cell hx1 0 _ rfl
  have a1 : W3.cell? ⟨w.heap.size, 1, none⟩ = some (.int .i64 0) := new_cell hx1 1 _ rfl
  have af0 : W3.frozen? ⟨w.heap.size, 0, none⟩ = false := new_frozen hx1 0
  have af1 : W3.frozen? ⟨w.heap.size, 1, none⟩ = false := new_frozen hx1 1
  have b0 : W3.cell? ⟨w.heap.size + 1, 0, none⟩ = some (.pointer none) := by have h := new_cell hx2 0 _ rfl; rw [World.size_alloc] at h; exact h
  have bf0 : W3.frozen? ⟨w.heap.size + 1, 0, none⟩ = false := by have h := new_frozen hx2 0; rw [World.size_alloc] at h; exact h
  have c0 : W3.cell? ⟨w.heap.size + 1 + 1, 0, none⟩ = some (.int .i64 0) := by have h := new_cell hx3 0 _ rfl; rw [World.size_alloc, World.size_alloc] at h; exact h
  have cf0 : W3.frozen? ⟨w.heap.size + 1 + 1, 0, none⟩ = false := by have h := new_frozen hx3 0; rw [World.size_alloc, World.size_alloc] at h; exact h
  have d0 := (hB3.cell hbl).trans h1
  have d1 := (hB3.cell (World.block_lt_of_cell? _ _ h2)).trans h2
  have hE3 : ErrType W3 := hE.below hB3
  have hs3 : W3.heap.size = w.heap.size + 1 + 1 + 1 := by rw [← hW3]; simp
  have K1 : Hid (∀ w4, Hit W3 w4 (w.heap.size + 1) (.pointer (some ⟨b, 0, none⟩)) → ErrType w4 ∧ w4.cell? ⟨w.heap.size + 1 + 1, 0, none⟩ = some (.int .i64 0) ∧ w4.frozen? ⟨w.heap.size + 1 + 1, 0, none⟩ = false ∧ w4.cell? ⟨w.heap.size + 1, 0, none⟩ = some (.pointer (some ⟨b, 0, none⟩)) ∧ w4.cell? ⟨b, 1, none⟩ = some (.iface 25 (.int .i64 n))) :=
    Lib.hid (fun w4 h => ⟨h.cell hE3 (by omega), h.cell c0 (by omega), h.frozen (by omega) cf0 (by omega), h.1, h.cell d1 (by omega)⟩)
  have K2 : Hid (∀ w4 w5, Hit W3 w4 (w.heap.size + 1) (.pointer (some ⟨b, 0, none⟩)) → Hit w4 w5 (w.heap.size + 1 + 1) (.int .i64 n) → Below w.heap.size w w5 ∧ w5.cell? ⟨w.heap.size, 0, none⟩ = some (.int .i64 0) ∧ w5.cell? ⟨w.heap.size, 1, none⟩ = some (.int .i64 0) ∧ w5.frozen? ⟨w.heap.size, 0, none⟩ = false ∧ w5.frozen? ⟨w.heap.size, 1, none⟩ = false ∧ w5.cell? ⟨w.heap.size + 1, 0, none⟩ = some (.pointer (some ⟨b, 0, none⟩)) ∧ w5.cell? ⟨w.heap.size + 1 + 1, 0, none⟩ = some (.int .i64 n) ∧ w5.cell? ⟨b, 0, none⟩ = some (.int .i64 (p : Int))) :=
    Lib.hid (fun w4 w5 h h' => by
      have hs : W3.heap.size ≤ w4.heap.size := h.2.2.1.size
      exact ⟨(hB3.trans (h.2.2.1.mono (by omega))).trans (h'.2.2.1.mono (by omega)), h'.cell (h.cell a0 (by omega)) (by omega), h'.cell (h.cell a1 (by omega)) (by omega), h'.frozen (by omega) (h.frozen (by omega) af0 (by omega)) (by omega), h'.frozen (by omega) (h.frozen (by omega) af1 (by omega)) (by omega), h'.cell h.1 (by omega), h'.1, h'.cell (h.cell d0 (by omega)) (by omega)⟩)
  clear hx1 hx2 hx3 h1 h2 hB3 a0 a1 af0 af1 c0 cf0 d0 d1 hE hbl hgl
  have HE3 := Lib.hid hE3
  clear hE3
  go_enter Tryd.func28, Tryd.ntmps28
  go_wp2_with (first | (go_at_call 64; with_reducible refine (AB.out _ _ _ _ HE3.out b0 bf0).mono ?_; rintro e w4 ⟨rfl, hh4⟩; obtain ⟨hE4, t4, tf4, p4, d4⟩ := K1.out _ hh4; have HH4 := Lib.hid hh4; have HE4 := Lib.hid hE4; clear hh4 hE4) | (go_at_call 64; with_reducible refine (AE.out _ _ _ _ HE4.out t4 tf4).mono ?_; rintro e w5 ⟨rfl, hh5⟩; obtain ⟨hb5, r0, r1, rf0, rf1, p5, n5, d5⟩ := K2.out _ _ HH4.out hh5; clear hh5) | fail)
  go_region
  go_wp2_with fail
  refine bodyPost_ret (v := .agg #[.int .i64 (p : Int), .int .i64 n]) (by simp [results, Tryd.results28, go_sem, r0, r1]) rfl ⟨rfl, ?_⟩
  repeat first | exact hb5 | refine Below.drew ?_ | refine Below.setCell ?_ (by simp) _
end Go.Proofs.YtfjcbodkjjmagaaDoor
