/-
  The reference's Parts (a text cut at its hyphens) and Joined (parts put together): contracts. By an AI agent.
-/
import Derived.Test.YthipcepgbegaiaaDoorZGPlain
import Derived.Test.YthipcepgbegaiaaDoorProg
import Derived.Outline
import Derived.Lib.AppendStr
import Derived.Lib.Strings
namespace Go.Proofs.YthipcepgbegaiaaDoor
open Go.RowKit
set_option maxRecDepth 100000

theorem infoStr : (Tryd.prog.info? 9).map (fun i => (i.zero, i.size, i.bytes)) = some (some (.string ⟨#[]⟩), 1, 16) := by kernel_rfl
/-- what Parts has when k bytes are gone through: the parts so far, and where the next one begins -/
def PartsAt (l : List UInt8) (k f : Nat) (ps : List (List UInt8)) : Prop := f ≤ k ∧ k ≤ l.length ∧ ps.length ≤ f ∧ partsOf l = ps ++ partsOf (l.drop f) ∧ ∀ c ∈ (l.drop f).take (k - f), c ≠ 45
theorem PartsAt.zero (l : List UInt8) : PartsAt l 0 0 [] := ⟨Nat.le_refl _, Nat.zero_le _, Nat.le_refl _, by simp, by simp⟩
theorem PartsAt.done {l : List UInt8} {f : Nat} {ps : List (List UInt8)} (h : PartsAt l l.length f ps) : partsOf l = ps ++ [l.drop f] := by
  obtain ⟨h1, h2, h3, h4, h5⟩ := h
  rw [h4, partsOf_plain (l.drop f) (by rw [List.take_of_length_le (by simp)] at h5; exact h5)]

end Go.Proofs.YthipcepgbegaiaaDoor
