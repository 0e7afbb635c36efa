/-
  The tag of some parts, in plain words. No program in sight. By an AI agent.
-/
import Derived.Test.YtfjcbodkjjmagaaDoorText
import Derived.Lib.Join
namespace Go.Proofs.YtfjcbodkjjmagaaDoor
structure TagL where
  lang : List UInt8
  ext : List UInt8
  script : List UInt8
  region : List UInt8
  vars : List (List UInt8)
  exts : List (List UInt8)
  priv : List UInt8
/-- those that are not empty -/
def keepL (l : List (List UInt8)) : List (List UInt8) := l.filter fun x => !(x == [])
theorem keepL_nil : keepL [] = [] := rfl
theorem keepL_append (a b : List (List UInt8)) : keepL (a ++ b) = keepL a ++ keepL b := by simp [keepL]
theorem keepL_yes {x : List UInt8} (h : (x == []) = false) (l : List (List UInt8)) : keepL (x :: l) = x :: keepL l := by
  unfold keepL
  rw [List.filter_cons_of_pos (by rw [h]; rfl)]
theorem keepL_no {x : List UInt8} (h : (x == []) = true) (l : List (List UInt8)) : keepL (x :: l) = keepL l := by
  unfold keepL
  rw [List.filter_cons_of_neg (by rw [h]; decide)]
theorem keepL_len (l : List (List UInt8)) : (keepL l).length ≤ l.length := List.length_filter_le _ _
theorem keepL_take {l : List (List UInt8)} {k : Nat} (h : k < l.length) : keepL (l.take (k + 1)) = keepL (l.take k) ++ keepL [l[k]] := by
  rw [List.take_succ_eq_append_getElem h, keepL_append]
def partsT (t : TagL) : List (List UInt8) := keepL [t.lang, t.ext, t.script, t.region] ++ t.vars ++ t.exts ++ keepL [t.priv]
def joinT (t : TagL) : List UInt8 := joinD (partsT t)
theorem join_joinD : ∀ (l : List (List UInt8)), Lib.join l [45] = joinD l
  | [] => rfl
  | [x] => by rw [Lib.join_one]; rfl
  | x :: y :: r => by
    have h := join_joinD (y :: r)
    unfold Lib.join at h ⊢
    rw [List.intercalate_cons_cons, h]
    simp [joinD]
end Go.Proofs.YtfjcbodkjjmagaaDoor
