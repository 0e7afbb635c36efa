/-
  What the bound of an '..UptoSaid' gives. By an AI agent.
-/
import Derived.Test.YthipcepgbegaiaaRows
namespace Go.Proofs.Ythipcepgbegaiaa
theorem bulk_one {H : Type} (d : DataW H) : 1 ≤ Rows.uptoBulk d := by
  cases d with
  | lit l => cases l <;> simp [Rows.uptoBulk]
  | _ => simp [Rows.uptoBulk]
theorem bulk_mem {H : Type} {d : DataW H} {l : List (DataW H)} (h : d ∈ l) : Rows.uptoBulk d ≤ Rows.uptoBulkAll l := by
  induction l with
  | nil => cases h
  | cons x r ih =>
    simp only [Rows.uptoBulkAll]
    rcases List.mem_cons.1 h with e | e
    · subst e; omega
    · have := ih e; omega
theorem bulk_length {H : Type} (l : List (DataW H)) : l.length ≤ Rows.uptoBulkAll l := by
  induction l with
  | nil => simp [Rows.uptoBulkAll]
  | cons x r ih => have := bulk_one x; simp only [Rows.uptoBulkAll, List.length_cons]; omega
theorem bulk_text {H : Type} (l : List UInt8) : Rows.uptoBulk (DataW.lit (H := H) (.string l)) = l.length + 1 := by simp [Rows.uptoBulk]
theorem bulk_of {H : Type} {l : List (DataW H)} (hk : Rows.uptoSmall H l = true) : Rows.uptoBulkAll l ≤ 1048576 := of_decide_eq_true hk
/-- all the letters of texts, and one each -/
def lensOf (ls : List (List UInt8)) : Nat := (ls.map fun l => l.length + 1).sum
theorem bulk_texts {H : Type} (ls : List (List UInt8)) : Rows.uptoBulkAll (ls.map fun l => DataW.lit (H := H) (.string l)) = lensOf ls := by
  induction ls with
  | nil => simp [Rows.uptoBulkAll, lensOf]
  | cons x r ih =>
    have e : lensOf (x :: r) = (x.length + 1) + lensOf r := by simp [lensOf]
    rw [List.map_cons, Rows.uptoBulkAll, ih, bulk_text, e]
theorem lens_length (ls : List (List UInt8)) : ls.length ≤ lensOf ls := by
  induction ls with
  | nil => simp [lensOf]
  | cons x r ih =>
    have e : lensOf (x :: r) = (x.length + 1) + lensOf r := by simp [lensOf]
    simp [e]; omega
theorem lens_mem {ls : List (List UInt8)} {p : List UInt8} (h : p ∈ ls) : p.length + 1 ≤ lensOf ls := by
  induction ls with
  | nil => cases h
  | cons x r ih =>
    have e : lensOf (x :: r) = (x.length + 1) + lensOf r := by simp [lensOf]
    rcases List.mem_cons.1 h with h | h
    · subst h; omega
    · have := ih h; omega
theorem bulk_slice {H : Type} (ls : List (List UInt8)) (rest : List (DataW H)) : lensOf ls + 1 ≤ Rows.uptoBulk (.slice (ls.map fun l => DataW.lit (.string l)) rest) := by
  simp only [Rows.uptoBulk, bulk_texts]
  omega
theorem bulk_text_arg {H : Type} {d : DataW H} {ls : List (List UInt8)} (h : (d = .nil ∧ ls = []) ∨ ∃ rest, d = .slice (ls.map fun l => .lit (.string l)) rest) : lensOf ls ≤ Rows.uptoBulk d := by
  rcases h with ⟨rfl, rfl⟩ | ⟨rest, rfl⟩
  · exact Nat.zero_le _
  · have := bulk_slice ls rest
    omega
end Go.Proofs.Ythipcepgbegaiaa
