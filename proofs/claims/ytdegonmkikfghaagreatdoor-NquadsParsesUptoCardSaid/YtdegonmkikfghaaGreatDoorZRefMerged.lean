/-
  The reference's merged: contract. By an AI agent.
-/
import Derived.Test.YtdegonmkikfghaaGreatDoorZRefBothQ
namespace Go.Proofs.YtdegonmkikfghaaGreatDoor
open Go.RowKit
set_option maxRecDepth 100000
def goesB (l : Option QuadL) (q : QuadL) : Bool := match l with
 | none => true
 | some x => decide (cmpQ x q < 0)
def doneQ (done : List QuadL) (q : QuadL) : List QuadL := if goesB done.getLast? q then done ++ [q] else done
theorem joinR_a (done : List QuadL) (x : QuadL) (ls rs : List QuadL) (h : rs = [] \/ ∃ y ys, rs = y :: ys /\ cmpQ x y <= 0) : done ++ joinR done.getLast? (x :: ls) rs = doneQ done x ++ joinR (doneQ done x).getLast? ls rs := by
 have key : joinR done.getLast? (x :: ls) rs = joinR.putR done.getLast? x (joinR (some x) ls rs) (joinR done.getLast? ls rs) := by
  rcases h with rfl | ⟨y, ys, rfl, hc⟩
  ·rw [joinR]
  ·rw [joinR, if_pos hc]
 rw [key]
 unfold doneQ goesB joinR.putR
 cases hl : done.getLast? with
 | none => simp
 | some z =>
  by_cases hz : cmpQ z x < 0
  ·simp [hz]
  ·simp [hz, hl]
theorem joinR_b (done : List QuadL) (y : QuadL) (ls rs : List QuadL) (h : ls = [] \/ ∃ x xs, ls = x :: xs /\ ¬ cmpQ x y <= 0) : done ++ joinR done.getLast? ls (y :: rs) = doneQ done y ++ joinR (doneQ done y).getLast? ls rs := by
 have key : joinR done.getLast? ls (y :: rs) = joinR.putR done.getLast? y (joinR (some y) ls rs) (joinR done.getLast? ls rs) := by
  rcases h with rfl | ⟨x, xs, rfl, hc⟩
  ·rw [joinR]
  ·rw [joinR, if_neg hc]
 rw [key]
 unfold doneQ goesB joinR.putR
 cases hl : done.getLast? with
 | none => simp
 | some z =>
  by_cases hz : cmpQ z y < 0
  ·simp [hz]
  ·simp [hz, hl]
theorem joinR_nil (l : Option QuadL) : joinR l [] [] = [] := by rw [joinR]
end Go.Proofs.YtdegonmkikfghaaGreatDoor
