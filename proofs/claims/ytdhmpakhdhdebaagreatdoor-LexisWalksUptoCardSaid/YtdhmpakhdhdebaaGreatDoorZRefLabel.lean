/-
  The reference's Label: contract. By an AI agent.
-/
import Derived.Test.YtdhmpakhdhdebaaGreatDoorZLabel
namespace Go.Proofs.YtdhmpakhdhdebaaGreatDoor
open Go.RowKit
set_option maxRecDepth 100000
theorem scalF_length (l : List UInt8) : ∀ (k i : Nat) (sc : List Int), l.length - i <= k -> scalF l i = some sc -> sc.length <= l.length - i
 | k, i, sc, hk, h => by
  by_cases hi : l.length <= i
  ·rw [scalF_end hi] at h; cases h; exact Nat.zero_le _
  ·obtain ⟨v, n, hq⟩ : ∃ v n, nextAt l (i : Int) = (v, n) := ⟨_, _, rfl⟩
   by_cases hn : n = 0
   ·subst hn; rw [scalF_none (by omega) hq] at h; cases h
   ·rw [scalF_go (by omega) hq hn] at h
    cases hs : scalF l (i + n) with
    | none => rw [hs] at h; cases h
    | some t =>
     rw [hs] at h
     cases h
     have hb := nextAt_bound hq hn
     obtain ⟨k, rfl⟩ : ∃ k', k = k' + 1 := ⟨k - 1, by omega⟩
     have := scalF_length l k (i + n) t (by omega) hs
     simp
     omega
theorem scalF_nil {l : List UInt8} (h : scalF l 0 = some []) : l = [] := by
 by_cases hl : l.length <= 0
 ·exact List.eq_nil_of_length_eq_zero (by omega)
 ·obtain ⟨v, n, hq⟩ : ∃ v n, nextAt l ((0 : Nat) : Int) = (v, n) := ⟨_, _, rfl⟩
  by_cases hn : n = 0
  ·subst hn; rw [scalF_none (by omega) hq] at h; cases h
  ·rw [scalF_go (by omega) hq hn] at h
   cases hs : scalF l (0 + n) with
   | none => rw [hs] at h; cases h
   | some t => rw [hs] at h; cases h
theorem intAt0 {w : World} {b o : Nat} {v : Int} {t : List Int} (h : At w (some ⟨b, o, none⟩) ((v :: t).map I64)) : w.cell? ⟨b, o, none⟩ = some (.int .i64 v) := by
 have := intAt h (k := 0) (by simp)
 exact this
theorem prefixNum_none {l : List UInt8} (hl : l ≠ []) (h : scalF l 0 = none) : prefixNum l = 62 := by unfold prefixNum wholeR; rw [if_neg hl, h]; rfl
theorem prefixNum_cons {l : List UInt8} {v : Int} {t : List Int} (hl : l ≠ []) (h : scalF l 0 = some (v :: t)) : prefixNum l = bif baseB v && okRest t then 0 else 62 := by
 unfold prefixNum wholeR
 rw [if_neg hl, h]
 cases hc : baseB v && okRest t <;> simp [hc]
end Go.Proofs.YtdhmpakhdhdebaaGreatDoor
