/-
  Which scalars may stand where: the plain words. No program in sight. By an AI agent.
-/
import Derived.Test.YtfjcbodkjjmagaaDoorKit
namespace Go.Proofs.YtfjcbodkjjmagaaDoor
open Go.RowKit
set_option maxRecDepth 100000

def letterB (r : Int) : Bool := decide (97 ≤ r ∧ r ≤ 122) || decide (65 ≤ r ∧ r ≤ 90)
def digitB (r : Int) : Bool := decide (48 ≤ r ∧ r ≤ 57)
def ranges : List (Int × Int) := [(192, 214), (216, 246), (248, 767), (880, 893), (895, 8191), (8204, 8205), (8304, 8591), (11264, 12271), (12289, 55295), (63744, 64975), (65008, 65533), (65536, 983039)]
def inOne (r : Int) (p : Int × Int) : Bool := decide (p.1 ≤ r) && decide (r ≤ p.2)
def baseB (r : Int) : Bool := ((65, 90) :: (97, 122) :: ranges).any (inOne r)
def startB (r : Int) : Bool := baseB r || decide (r = 95)
def labelB (r : Int) : Bool := startB r || digitB r
def followB (r : Int) : Bool := startB r || digitB r || decide (r = 45) || decide (r = 183) || decide (768 ≤ r ∧ r ≤ 879) || decide (8255 ≤ r ∧ r ≤ 8256)

theorem any_false {α : Type} {l : List α} {f : α → Bool} (h : ∀ x ∈ l, f x = false) : l.any f = false := by
  rw [List.any_eq_false]
  intro x hx
  rw [h x hx]
  simp
theorem inOne_false {r : Int} {p : Int × Int} (h : r < p.1 ∨ p.2 < r) : inOne r p = false := by
  unfold inOne
  rcases h with h | h
  · rw [decide_eq_false (by omega)]; rfl
  · rw [decide_eq_false (p := r ≤ p.2) (by omega), Bool.and_false]
theorem inOne_true {r : Int} {p : Int × Int} (h1 : p.1 ≤ r) (h2 : r ≤ p.2) : inOne r p = true := by
  unfold inOne
  rw [decide_eq_true h1, decide_eq_true h2]
  rfl
theorem ranges_low : ∀ p ∈ ranges, (192 : Int) ≤ p.1 := by decide
theorem baseB_low {r : Int} (h : r < 128) : baseB r = letterB r := by
  unfold baseB letterB
  rw [List.any_cons, List.any_cons, any_false (l := ranges) (fun p hp => inOne_false (.inl (by have := ranges_low p hp; omega)))]
  unfold inOne
  rw [Bool.or_false, Bool.or_comm, Bool.decide_and, Bool.decide_and]
theorem baseB_high {r : Int} (h : 128 ≤ r) : baseB r = ranges.any (inOne r) := by
  unfold baseB
  rw [List.any_cons, List.any_cons, inOne_false (.inr (by show (90 : Int) < r; omega)), inOne_false (.inr (by show (122 : Int) < r; omega))]
  rfl

end Go.Proofs.YtfjcbodkjjmagaaDoor
