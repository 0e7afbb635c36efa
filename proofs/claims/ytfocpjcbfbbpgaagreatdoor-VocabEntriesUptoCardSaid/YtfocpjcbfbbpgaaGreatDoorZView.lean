/-
  A slice of texts seen as a list, and its tail. By an AI agent.
-/
import Derived.Test.YtfocpjcbfbbpgaaGreatDoorZKit2
import Derived.Test.YtfocpjcbfbbpgaaGreatDoorZGPlain
namespace Go.Proofs.YtfocpjcbfbbpgaaGreatDoor
open Go.RowKit
def View (w : World) (v : Value) (xs : List (List UInt8)) : Prop :=
 ∃ b o cap, v = .slice (some ⟨b, o, none⟩) xs.length cap /\ xs.length <= cap /\ ∀ (i : Nat) (h : i < xs.length), w.cell? ⟨b, o + i, none⟩ = some (strV xs[i])
def tailSV (b o len cap : Nat) : Value := sliced (some ⟨b, o, none⟩) 1 len cap 1
theorem View.tail {w : World} {b o cap n : Nat} {x : List UInt8} {xs : List (List UInt8)} (h : View w (.slice (some ⟨b, o, none⟩) n cap) (x :: xs)) : View w (tailSV b o n cap) xs := by
 obtain ⟨b', o', cap', he, hc, hx⟩ := h
 injection he with e1 e2 e3
 injection e1 with e1
 injection e1 with e4 e5
 subst e2 e3 e4 e5
 by_cases h1 : cap = 1
 · subst h1
   have : xs = [] := List.length_eq_zero_iff.1 (by rw [List.length_cons] at hc; omega)
   subst this
   exact ⟨b, o, 0, by simp [tailSV, sliced], Nat.le_refl _, fun i hi => absurd hi (by simp)⟩
 · refine ⟨b, o + 1, cap - 1, ?_, by simp at hc; omega, ?_⟩
   · simp [tailSV, sliced, h1, Addr.add]
   · intro i hi
     have := hx (i + 1) (by simp; omega)
     rw [show o + 1 + i = o + (i + 1) by omega]
     simpa using this
theorem View.head {w : World} {b o cap n : Nat} {x : List UInt8} {xs : List (List UInt8)} (h : View w (.slice (some ⟨b, o, none⟩) n cap) (x :: xs)) : n = xs.length + 1 /\ n <= cap /\ w.cell? ⟨b, o, none⟩ = some (.string (B x)) := by
 obtain ⟨b', o', cap', he, hc, hx⟩ := h
 injection he with e1 e2 e3
 injection e1 with e1
 injection e1 with e4 e5
 subst e2 e3 e4 e5
 exact ⟨rfl, hc, hx 0 (by simp)⟩
theorem View.nil {w : World} {b o cap n : Nat} (h : View w (.slice (some ⟨b, o, none⟩) n cap) []) : n = 0 := by
 obtain ⟨b', o', cap', he, hc, hx⟩ := h
 injection he
theorem View.form {w : World} {v : Value} {xs : List (List UInt8)} (h : View w v xs) : ∃ b o cap, v = .slice (some ⟨b, o, none⟩) xs.length cap := by
 obtain ⟨b, o, cap, he, _⟩ := h
 exact ⟨b, o, cap, he⟩
theorem View.below {w w' : World} {v : Value} {xs : List (List UInt8)} (h : View w v xs) (hb : Below w.heap.size w w') : View w' v xs := by
 obtain ⟨b, o, cap, he, hc, hx⟩ := h
 exact ⟨b, o, cap, he, hc, fun i hi => by
   have h1 := hx i hi
   rw [hb.cell (p := ⟨b, o + i, none⟩) (World.block_lt_of_cell? _ _ h1)]
   exact h1⟩
theorem View.of_row {w : World} {base : Nat} {e : TypeId} {v : Value} {xs : List (List UInt8)} (h : w.ownsRow base e 1 v xs.length (xs.map strV)) (hne : xs ≠ []) : View w v xs := by
 obtain ⟨a, cap, rfl, hc, _, ha⟩ := ownsRow_at h
 have hpos : 0 < (xs.map strV).length := by rw [List.length_map]; exact List.length_pos_iff.2 hne
 obtain ⟨b, o, rfl⟩ := ha.place hpos
 refine ⟨b, o, cap, rfl, hc, fun i hi => ?_⟩
 have := ha.get (j := i) (by simpa using hi)
 simpa using this
theorem View.of_alloc (w : World) (e : TypeId) (cs : List Value) (xs : List (List UInt8)) (h : cs = xs.map strV) (n : Nat) (hn : n = xs.length) : View (w.alloc (.cells cs.toArray e)) (.slice (some ⟨w.heap.size, 0, none⟩) n n) xs := by
 subst h hn
 refine ⟨w.heap.size, 0, xs.length, rfl, Nat.le_refl _, fun i hi => ?_⟩
 rw [Nat.zero_add, World.cell?_alloc_new]
 simp [hi]
theorem run_tail {P : Program} (t e : TypeId) (ht : P.underlying t = some (.slice e)) (hz : ∀ w, (Go.sizeOf e).run P w = .ok 1 w) (b o n cap : Nat) (hn : 1 <= n) (w : World) :
   (Instr.slice t (.slice (some ⟨b, o, none⟩) n cap) (some (.int .i64 1)) none none).run P w = .ok (tailSV b o n cap) w := by
 have he : P.elem t = e := by simp [Program.elem, ht]
 rw [run_slice_l w t _ n cap (by rw [he]; exact ht) .i64 1 (by decide) (by omega), he, hz]
 rfl
def lenV : Value -> Nat
 | .slice _ n _ => n
 | _ => 0
theorem View.len {w : World} {v : Value} {xs : List (List UInt8)} (h : View w v xs) : lenV v = xs.length := by
 obtain ⟨b, o, cap, rfl, _⟩ := h
 rfl
theorem View.empty {w : World} {v : Value} (h : View w v []) : ∃ b o cap, v = .slice (some ⟨b, o, none⟩) 0 cap := by
 obtain ⟨b, o, cap, he, _⟩ := h
 exact ⟨b, o, cap, he⟩
theorem View.cons {w : World} {v : Value} {x : List UInt8} {xs : List (List UInt8)} (h : View w v (x :: xs)) :
   ∃ b o cap, v = .slice (some ⟨b, o, none⟩) (xs.length + 1) cap /\ xs.length + 1 <= cap /\ w.cell? ⟨b, o, none⟩ = some (.string (B x)) /\ View w (tailSV b o (xs.length + 1) cap) xs := by
 obtain ⟨b, o, cap, rfl⟩ := h.form
 exact ⟨b, o, cap, rfl, h.head.2.1, h.head.2.2, h.tail⟩
end Go.Proofs.YtfocpjcbfbbpgaaGreatDoor
