/-
  Two texts, one behind the other, as Parse reads them: plain laws. No program in sight. By an AI agent.
-/
import Derived.Test.YtdegonmkikfghaaGreatDoorZSort0
import Derived.Test.YtdegonmkikfghaaGreatDoorZRefTag
import Derived.Test.YtdegonmkikfghaaGreatDoorZAdd
namespace Go.Proofs.YtdegonmkikfghaaGreatDoor
open Go.RowKit
set_option maxRecDepth 100000
theorem eachF_few (s : List UInt8) : ∀ (k i : Nat), s.length - i <= k -> (eachF s i).1.length <= k
 | k, i, hk => by
  by_cases h : s.length <= i
  ·rw [eachF_end h]; exact Nat.zero_le _
  have hge := eolF_ge s i
  match k, hk with
  | 0, hk => omega
  | k + 1, hk =>
   have ih := eachF_few s k (eolF s i + 1) (by omega)
   cases hq : lineAt (cutF s i (eolF s i)) with
   | inr f => obtain ⟨p, e⟩ := f; rw [eachF_bad (by omega) hq]; exact Nat.zero_le _
   | inl o =>
    cases o with
    | none => rw [eachF_none (by omega) hq]; omega
    | some q => rw [eachF_some (by omega) hq, List.length_cons]; omega
theorem parse_few {s : List UInt8} {a : List QuadL} (h : parseF s = .inl a) : a.length <= s.length := by
 unfold parseF at h
 cases h2 : (eachF s 0).2 with
 | some f => rw [h2] at h; cases h
 | none =>
  rw [h2] at h
  cases h
  refine Nat.le_trans (setQ_len _) ?_
  rw [List.length_map]
  exact eachF_few s s.length 0 (by omega)
end Go.Proofs.YtdegonmkikfghaaGreatDoor
namespace Go.Proofs.YtdegonmkikfghaaGreatDoor
open Go.RowKit
set_option maxRecDepth 1000000
theorem line_none : lineAt [] = .inl none := by kernel_rfl
theorem eachF_half (s : List UInt8) : ∀ (k i : Nat), s.length - i <= k -> 2 * (eachF s i).1.length <= s.length + 1 - i
 | k, i, hk => by
  by_cases h : s.length <= i
  ·rw [eachF_end h]; exact Nat.zero_le _
  have hge := eolF_ge s i
  match k, hk with
  | 0, hk => omega
  | k + 1, hk =>
   have ih := eachF_half s k (eolF s i + 1) (by omega)
   cases hq : lineAt (cutF s i (eolF s i)) with
   | inr f => obtain ⟨p, e⟩ := f; rw [eachF_bad (by omega) hq]; exact Nat.zero_le _
   | inl o =>
    cases o with
    | none => rw [eachF_none (by omega) hq]; omega
    | some q =>
     rw [eachF_some (by omega) hq, List.length_cons]
     have : eolF s i ≠ i := fun e => by
      rw [e] at hq
      have hc : cutF s i i = [] := by unfold cutF; simp
      rw [hc, line_none] at hq; cases hq
     omega
end Go.Proofs.YtdegonmkikfghaaGreatDoor
