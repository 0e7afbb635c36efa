/-
  What the two ways of matching a range answer, in plain words. By an AI agent.
-/
import Derived.Test.YtfjcbodkjjmagaaDoorText
import Derived.Test.YtfjcbodkjjmagaaDoorLower0
namespace Go.Proofs.YtfjcbodkjjmagaaDoor

def basicP (r t : List UInt8) : Bool := lowL r == [42] || lowL r == lowL t || (lowL r ++ [45]).isPrefixOf (lowL t)

/-- the loop of RFC 4647's extended filtering, over the parts -/
def extLoop : List (List UInt8) → List (List UInt8) → Bool
  | [], _ => true
  | r :: rs, [] => if r = [42] then extLoop rs [] else false
  | r :: rs, t :: ts => if r = [42] then extLoop rs (t :: ts) else if r = t then extLoop rs ts else if t.length = 1 then false else extLoop (r :: rs) ts
termination_by a b => a.length + b.length

def extP (r t : List UInt8) : Bool :=
  match partsOf (lowL r), partsOf (lowL t) with
  | a :: rs, b :: ts => if a ≠ [42] ∧ a ≠ b then false else extLoop rs ts
  | _, _ => false

theorem prefix_take (p t : List UInt8) : p.isPrefixOf t = (decide (p.length ≤ t.length) && decide (t.take p.length = p)) := by
  rw [Bool.eq_iff_iff, List.isPrefixOf_iff_prefix]
  simp only [Bool.and_eq_true, decide_eq_true_eq]
  constructor
  · intro h
    exact ⟨h.length_le, (List.prefix_iff_eq_take.1 h).symm⟩
  · intro ⟨_, h⟩
    rw [← h]
    exact List.take_prefix _ _

theorem extLoop_nil (ts : List (List UInt8)) : extLoop [] ts = true := by rw [extLoop]
theorem extLoop_star {r : List UInt8} {rs ts : List (List UInt8)} (h : r = [42]) : extLoop (r :: rs) ts = extLoop rs ts := by
  cases ts <;> rw [extLoop, if_pos h]
theorem extLoop_end {r : List UInt8} {rs : List (List UInt8)} (h : r ≠ [42]) : extLoop (r :: rs) [] = false := by rw [extLoop, if_neg h]
theorem extLoop_same {r t : List UInt8} {rs ts : List (List UInt8)} (h : r ≠ [42]) (h2 : r = t) : extLoop (r :: rs) (t :: ts) = extLoop rs ts := by rw [extLoop, if_neg h, if_pos h2]
theorem extLoop_one {r t : List UInt8} {rs ts : List (List UInt8)} (h : r ≠ [42]) (h2 : r ≠ t) (h3 : t.length = 1) : extLoop (r :: rs) (t :: ts) = false := by rw [extLoop, if_neg h, if_neg h2, if_pos h3]
theorem extLoop_pass {r t : List UInt8} {rs ts : List (List UInt8)} (h : r ≠ [42]) (h2 : r ≠ t) (h3 : t.length ≠ 1) : extLoop (r :: rs) (t :: ts) = extLoop (r :: rs) ts := by rw [extLoop, if_neg h, if_neg h2, if_neg h3]
theorem extP_cons {r t a b : List UInt8} {rs ts : List (List UInt8)} (h1 : partsOf (lowL r) = a :: rs) (h2 : partsOf (lowL t) = b :: ts) : extP r t = if a ≠ [42] ∧ a ≠ b then false else extLoop rs ts := by
  unfold extP
  rw [h1, h2]
end Go.Proofs.YtfjcbodkjjmagaaDoor
