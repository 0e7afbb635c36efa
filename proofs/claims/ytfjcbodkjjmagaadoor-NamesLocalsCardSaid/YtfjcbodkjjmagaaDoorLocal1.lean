/-
  What the two pieces say of a step. No program in sight. By an AI agent.
-/
import Derived.Test.YtfjcbodkjjmagaaDoorRefPiece
namespace Go.Proofs.YtfjcbodkjjmagaaDoor
open Go.RowKit
set_option maxRecDepth 100000

theorem piece_cases {l : List UInt8} {j n : Nat} {t : List UInt8} {r : Int} (h : pieceF l j = (t, n, r)) :
    (r = -1 ∧ stepL l j = .inl (t, n)) ∨ (r = -3 ∧ stepL l j = .inr 40) ∨ (r = -2 ∧ stepL l j = .inr 62) ∨ (0 ≤ r ∧ j + n ≤ l.length ∧ stepL l j = if standsB r (decide (j = 0)) (decide (j + n = l.length)) = true then .inl (t, n) else .inr 62) := by
  obtain ⟨v, m, hq⟩ : ∃ v m, nextAt l (j : Int) = (v, m) := ⟨_, _, rfl⟩
  unfold pieceF at h
  unfold stepL
  rw [hq] at h ⊢
  simp only at h ⊢
  by_cases h1 : percB (l.drop j) = true
  · rw [if_pos h1] at h ⊢; cases h; exact .inl ⟨rfl, rfl⟩
  rw [if_neg h1] at h ⊢
  by_cases h2 : esc2 (l.drop j) = true
  · rw [if_pos h2] at h ⊢; cases h; exact .inl ⟨rfl, rfl⟩
  rw [if_neg h2] at h ⊢
  by_cases h3 : m = 0
  · rw [if_pos h3] at h ⊢; cases h; exact .inr (.inl ⟨rfl, rfl⟩)
  rw [if_neg h3] at h ⊢
  by_cases h4 : v = 37 ∨ v = 92
  · rw [if_pos h4] at h ⊢; cases h; exact .inr (.inr (.inl ⟨rfl, rfl⟩))
  rw [if_neg h4] at h ⊢
  cases h
  exact .inr (.inr (.inr ⟨(nextAt_bound hq h3).2.2.1, by have := (nextAt_bound hq h3).2.1; omega, rfl⟩))

theorem esc2_next {l : List UInt8} {j : Nat} (h : esc2 (l.drop j) = true) : nextAt l j = (92, 1) := by
  obtain ⟨b, t, ht, _⟩ := esc2_front h
  rw [nextAt_low ht (by decide)]
  rfl

theorem refPiece_cases {l : List UInt8} {j n m : Nat} {t : List UInt8} {r v : Int} (h : refPieceF l j = (t, n, r)) (hq : nextAt l (j : Int) = (v, m)) :
    (m = 0 ∧ stepL l j = .inr 40) ∨ (m ≠ 0 ∧ ((n = 0 ∧ stepL l j = .inr 62) ∨ (n ≠ 0 ∧ r = -1 ∧ stepL l j = .inl (t, n)) ∨ (n ≠ 0 ∧ 0 ≤ r ∧ j + n ≤ l.length ∧ stepL l j = if standsB r (decide (j = 0)) (decide (j + n = l.length)) = true then .inl (t, n) else .inr 62))) := by
  unfold refPieceF at h
  unfold stepL
  by_cases h1 : percB (l.drop j) = true
  · have := percB_next h1
    rw [hq] at this
    cases this
    rw [if_pos h1] at h ⊢; cases h; exact .inr ⟨by omega, .inr (.inl ⟨by omega, rfl, rfl⟩)⟩
  rw [if_neg h1] at h ⊢
  by_cases h2 : esc2 (l.drop j) = true
  · have := esc2_next h2
    rw [hq] at this
    cases this
    rw [if_pos h2] at h ⊢; cases h; exact .inr ⟨by omega, .inr (.inl ⟨by omega, rfl, rfl⟩)⟩
  rw [if_neg h2] at h ⊢
  rw [hq] at h ⊢
  simp only at h ⊢
  by_cases h3 : m = 0
  · rw [if_pos h3]; exact .inl ⟨h3, rfl⟩
  rw [if_neg h3]
  by_cases h4 : v = 37 ∨ v = 92
  · rw [if_pos (.inr h4)] at h; rw [if_pos h4]; cases h; exact .inr ⟨h3, .inl ⟨rfl, rfl⟩⟩
  rw [if_neg (by rintro (h | h); exact h3 h; exact h4 h)] at h
  rw [if_neg h4]
  cases h
  exact .inr ⟨h3, .inr (.inr ⟨h3, (nextAt_bound hq h3).2.2.1, by have := (nextAt_bound hq h3).2.1; omega, rfl⟩)⟩

/-- what a text says, or nothing -/
def sayF : List UInt8 ⊕ (Nat × Int) → List UInt8
  | .inl t => t
  | .inr _ => []
end Go.Proofs.YtfjcbodkjjmagaaDoor
