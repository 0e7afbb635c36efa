/-
  names.tagReader: what it holds; next: contract. By an AI agent.
-/
import Derived.Test.YtfjcbodkjjmagaaDoorView
import Derived.Test.YtfjcbodkjjmagaaDoorTagFns
import Derived.RangeFuncBox
namespace Go.Proofs.YtfjcbodkjjmagaaDoor
open Go.RowKit
set_option maxRecDepth 100000

/-- v is a slice within block k whose elements are the texts xs -/
def ViewAt (w : World) (k : Nat) (v : Value) (xs : List (List UInt8)) : Prop :=
  ∃ o cap, v = .slice (some ⟨k, o, none⟩) xs.length cap ∧ xs.length ≤ cap ∧ ∀ (i : Nat) (h : i < xs.length), w.cell? ⟨k, o + i, none⟩ = some (strV xs[i])
theorem ViewAt.view {w : World} {k : Nat} {v : Value} {xs : List (List UInt8)} (h : ViewAt w k v xs) : View w v xs := by
  obtain ⟨o, cap, h⟩ := h
  exact ⟨k, o, cap, h⟩
theorem ViewAt.empty {w : World} {k : Nat} {v : Value} (h : ViewAt w k v []) : ∃ o cap, v = .slice (some ⟨k, o, none⟩) 0 cap := by
  obtain ⟨o, cap, he, _⟩ := h
  exact ⟨o, cap, he⟩
theorem ViewAt.cons {w : World} {k : Nat} {v : Value} {x : List UInt8} {xs : List (List UInt8)} (h : ViewAt w k v (x :: xs)) :
    ∃ o cap, v = .slice (some ⟨k, o, none⟩) (xs.length + 1) cap ∧ xs.length + 1 ≤ cap ∧ w.cell? ⟨k, o, none⟩ = some (.string (B x)) ∧ ViewAt w k (tailSV k o (xs.length + 1) cap) xs := by
  obtain ⟨o, cap, rfl, hc, hx⟩ := h
  refine ⟨o, cap, rfl, hc, hx 0 (by simp), ?_⟩
  by_cases h1 : cap = 1
  · subst h1
    have : xs = [] := List.length_eq_zero_iff.1 (by rw [List.length_cons] at hc; omega)
    subst this
    exact ⟨o, 0, by simp [tailSV, sliced], Nat.le_refl _, fun i hi => absurd hi (by simp)⟩
  · refine ⟨o + 1, cap - 1, ?_, by simp at hc; omega, ?_⟩
    · simp [tailSV, sliced, h1, Addr.add]
    · intro i hi
      have := hx (i + 1) (by simp; omega)
      rw [show o + 1 + i = o + (i + 1) by omega]
      simpa using this
theorem ViewAt.grown {w w' : World} {row : Option Nat} {k : Nat} {v : Value} {xs : List (List UInt8)} (h : ViewAt w k v xs) (hg : w.grownBy w' row) (hne : some k ≠ row) : ViewAt w' k v xs := by
  obtain ⟨o, cap, rfl, hc, hx⟩ := h
  refine ⟨o, cap, rfl, hc, fun i hi => ?_⟩
  have h1 := hx i hi
  have e := hg.block k (World.block_lt_of_cell? _ _ h1) hne
  simpa [World.cell?, e] using h1
theorem ViewAt.below {w w' : World} {k : Nat} {v : Value} {xs : List (List UInt8)} (h : ViewAt w k v xs) (hb : Below w.heap.size w w') : ViewAt w' k v xs := by
  obtain ⟨o, cap, rfl, hc, hx⟩ := h
  exact ⟨o, cap, rfl, hc, fun i hi => by
    have h1 := hx i hi
    rw [hb.cell (p := ⟨k, o + i, none⟩) (World.block_lt_of_cell? _ _ h1)]
    exact h1⟩

theorem sizeStr3 (w : World) : (Go.sizeOf 9).run Tryd.prog w = .ok 1 w := Tryd.sizeOf9 w
set_option maxHeartbeats 1600000 in
theorem tnext_l (b k : Nat) (p : List UInt8) (ps : List (List UInt8)) (lv : Value) (fs : List Value) (w : World) (hv : ViewAt w k lv (p :: ps)) (hR : RowAt w b (lv :: fs)) (hk : k ≠ b) :
    Calls Tryd.prog 69 #[.pointer (some ⟨b, 0, none⟩)] w fun e w' => e = .returned (.string (B p)) ∧ ∃ lv', ViewAt w' k lv' ps ∧ RowAt w' b (lv' :: fs) ∧ w.grownBy w' (some b) := by
  obtain ⟨o, cap, rfl, hc, hd, hv2⟩ := hv.cons
  have c0 := hR.cell (j := 0) (by simp)
  have f0 := hR.free (j := 0) (by simp)
  simp only [List.getElem_cons_zero] at c0
  have TAIL := fun wx => run_tail (P := Tryd.prog) 41 9 Tryd.underlying41 sizeStr3 k o (ps.length + 1) cap (by omega) wx
  have hg : w.grownBy (w.setCell ⟨b, 0, none⟩ (tailSV k o (ps.length + 1) cap)) (some b) := grownBy_setCell' w b _
  have V2 := Lib.hid (hv2.grown hg (by simpa using hk))
  have R2 := Lib.hid (hR.set (j := 0) (by simp) (tailSV k o (ps.length + 1) cap))
  have HG := Lib.hid hg
  obtain ⟨tv, htv⟩ : ∃ tv, tailSV k o (ps.length + 1) cap = tv := ⟨_, rfl⟩
  have htf : ∃ ao n c, tv = .slice ao n c := by rw [← htv]; unfold tailSV sliced; exact ⟨_, _, _, rfl⟩
  rw [htv] at V2 R2 HG TAIL
  obtain ⟨ao, n, c, rfl⟩ := htf
  clear hv hv2 hR hg htv
  go_enter Tryd.func69, Tryd.ntmps69
  go_wp2_with fail
  go_ret
  exact ⟨rfl, _, V2.out, by simpa using R2.out, HG.out⟩
end Go.Proofs.YtfjcbodkjjmagaaDoor
