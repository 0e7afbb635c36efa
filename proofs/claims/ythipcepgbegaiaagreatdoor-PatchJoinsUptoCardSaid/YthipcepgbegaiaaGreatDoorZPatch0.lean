/-
  What patches do to sets of quads: the plain words and laws. No program in sight. By an AI agent.
-/
import Derived.Test.YthipcepgbegaiaaGreatDoorZTerm0
namespace Go.Proofs.YthipcepgbegaiaaGreatDoor
set_option maxRecDepth 100000

def minusS (a b : List QuadL) : List QuadL := if riseB a && riseB b then mergeF true false false a b else []
def meetS (a b : List QuadL) : List QuadL := if riseB a && riseB b then mergeF false true false a b else []
def unionS (a b : List QuadL) : List QuadL := if riseB a && riseB b then mergeF true true true a b else []
/-- the reference's three -/
theorem minusS_ref (a b : List QuadL) : minusS a b = if riseB a && riseB b then bothR false a b else [] := by
  unfold minusS
  cases h : riseB a && riseB b with
  | false => rfl
  | true =>
    rw [Bool.and_eq_true, riseB_iff, riseB_iff] at h
    rw [minus_merge h.1 h.2]
theorem meetS_ref (a b : List QuadL) : meetS a b = if riseB a && riseB b then bothR true a b else [] := by
  unfold meetS
  cases h : riseB a && riseB b with
  | false => rfl
  | true =>
    rw [Bool.and_eq_true, riseB_iff, riseB_iff] at h
    rw [meet_merge h.1 h.2]
theorem unionS_ref (a b : List QuadL) : unionS a b = if riseB a && riseB b then joinR none a b else [] := by
  unfold unionS
  cases h : riseB a && riseB b with
  | false => rfl
  | true =>
    rw [Bool.and_eq_true, riseB_iff, riseB_iff] at h
    rw [join_merge h.1 h.2]
section
variable {a b : List QuadL} (ha : Rise a) (hb : Rise b)
include ha hb
theorem both_rise : (riseB a && riseB b) = true := by rw [Bool.and_eq_true, riseB_iff, riseB_iff]; exact ⟨ha, hb⟩
theorem mem_minus (x : QuadL) : x ∈ minusS a b ↔ x ∈ a ∧ x ∉ b := by
  unfold minusS
  rw [both_rise ha hb, if_pos rfl, mergeF_mem _ _ _ _ a b (Nat.le_refl _) ha hb]
  simp
theorem minus_rise : Rise (minusS a b) := by
  unfold minusS
  rw [both_rise ha hb, if_pos rfl]
  exact mergeF_rise _ _ _ _ a b (Nat.le_refl _) ha hb
theorem minus_len : (minusS a b).length ≤ a.length := by
  unfold minusS
  rw [both_rise ha hb, if_pos rfl, ← minus_merge ha hb, bothR_filter _ ha hb]
  exact List.length_filter_le _ _
end
theorem Fine.rise {l : List QuadL} (h : Fine l) : Rise l := h.2.2
theorem Fine.minus {a b : List QuadL} (ha : Fine a) (hb : Fine b) : Fine (minusS a b) :=
  ⟨Nat.le_trans (minus_len ha.rise hb.rise) ha.1, fun q hq => ha.2.1 q ((mem_minus ha.rise hb.rise q).1 hq).1, minus_rise ha.rise hb.rise⟩
structure PatchL where
  minus : List QuadL
  plus : List QuadL
  deriving DecidableEq
def noPatch : PatchL := ⟨[], []⟩
/-- the first that is not 0 -/
def firstN (a b : Int) : Int := if a ≠ 0 then a else b
def checkN (p : PatchL) : Int := firstN (firstN (validF p.minus).2 (validF p.plus).2) (if meetS p.minus p.plus = [] then 0 else 230)
def diffN (a b : List QuadL) : PatchL × Int := if firstN (validF a).2 (validF b).2 ≠ 0 then (noPatch, firstN (validF a).2 (validF b).2) else (⟨minusS a b, minusS b a⟩, 0)
/-- a dataset behind a patch; must: it has to fit -/
def behindN (must : Bool) (l : List QuadL) (p : PatchL) : List QuadL × Int :=
  if firstN (validF l).2 (checkN p) ≠ 0 then ([], firstN (validF l).2 (checkN p))
  else if must = true ∧ ¬ (minusS p.minus l = [] ∧ meetS p.plus l = []) then ([], 230)
  else if 1048576 < (unionS (minusS l p.minus) p.plus).length then ([], 2) else (unionS (minusS l p.minus) p.plus, 0)
/-! what fits -/
section
variable {a b c : List QuadL} (ha : Fine a) (hb : Fine b) (hc : Fine c)
include ha hb hc
end
end Go.Proofs.YthipcepgbegaiaaGreatDoor
