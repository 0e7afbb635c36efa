/-
  Quads compared: what != answers. By an AI agent.
-/
import Derived.Test.YthipcepgbegaiaaEach
import Derived.Test.YthipcepgbegaiaaRound
namespace Go.Proofs.Ythipcepgbegaiaa
open Go.RowKit
set_option maxRecDepth 100000
set_option maxHeartbeats 1000000 in
theorem neq_q (p q : QuadL) (w : World) : (binOp .neq 31 (qvE p) (qvE q)).run Try.prog w = .ok (.bool (!decide (p = q))) w := by
  obtain ⟨⟨k1, a1, b1, c1⟩, ⟨k2, a2, b2, c2⟩, ⟨k3, a3, b3, c3⟩, ⟨k4, a4, b4, c4⟩⟩ := p
  obtain ⟨⟨l1, d1, e1, f1⟩, ⟨l2, d2, e2, f2⟩, ⟨l3, d3, e3, f3⟩, ⟨l4, d4, e4, f4⟩⟩ := q
  go_simp
  by_cases h : k1 = l1
  case neg => rw [if_neg h]; simp [h]
  subst h
  rw [if_pos rfl]
  by_cases h : a1 = d1
  case neg => rw [if_neg h]; simp [h]
  subst h
  rw [if_pos rfl]
  by_cases h : b1 = e1
  case neg => rw [if_neg h]; simp [h]
  subst h
  rw [if_pos rfl]
  by_cases h : c1 = f1
  case neg => rw [if_neg h]; simp [h]
  subst h
  rw [if_pos rfl]
  by_cases h : k2 = l2
  case neg => rw [if_neg h]; simp [h]
  subst h
  rw [if_pos rfl]
  by_cases h : a2 = d2
  case neg => rw [if_neg h]; simp [h]
  subst h
  rw [if_pos rfl]
  by_cases h : b2 = e2
  case neg => rw [if_neg h]; simp [h]
  subst h
  rw [if_pos rfl]
  by_cases h : c2 = f2
  case neg => rw [if_neg h]; simp [h]
  subst h
  rw [if_pos rfl]
  by_cases h : k3 = l3
  case neg => rw [if_neg h]; simp [h]
  subst h
  rw [if_pos rfl]
  by_cases h : a3 = d3
  case neg => rw [if_neg h]; simp [h]
  subst h
  rw [if_pos rfl]
  by_cases h : b3 = e3
  case neg => rw [if_neg h]; simp [h]
  subst h
  rw [if_pos rfl]
  by_cases h : c3 = f3
  case neg => rw [if_neg h]; simp [h]
  subst h
  rw [if_pos rfl]
  by_cases h : k4 = l4
  case neg => rw [if_neg h]; simp [h]
  subst h
  rw [if_pos rfl]
  by_cases h : a4 = d4
  case neg => rw [if_neg h]; simp [h]
  subst h
  rw [if_pos rfl]
  by_cases h : b4 = e4
  case neg => rw [if_neg h]; simp [h]
  subst h
  rw [if_pos rfl]
  by_cases h : c4 = f4
  case neg => rw [if_neg h]; simp [h]
  subst h
  rw [if_pos rfl]
  simp
end Go.Proofs.Ythipcepgbegaiaa
