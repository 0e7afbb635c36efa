/-
  How many bytes has the longest label at a place: the plain words, for the program and the reference. No program in sight. By an AI agent.
-/
import Derived.Test.YtfjcbodkjjmagaaDoorUtf0
import Derived.Test.YtfjcbodkjjmagaaDoorChars0
namespace Go.Proofs.YtfjcbodkjjmagaaDoor
open Go.RowKit
set_option maxRecDepth 100000

theorem nextAt_nat (l : List UInt8) (i : Nat) : nextAt l (i : Int) = nextP (l.drop i) := by
  unfold nextAt
  by_cases h : l.length ≤ i
  · rw [if_pos (by omega), List.drop_of_length_le h]; rfl
  · rw [if_neg (by omega), Int.toNat_natCast]
theorem finN_bound {n : Nat} {o : Option Int} (h : (finN n o).2 ≠ 0) : (finN n o).2 = n ∧ 0 ≤ (finN n o).1 ∧ (finN n o).1 ≤ 1114111 := by
  cases o with
  | none => exact absurd rfl h
  | some v =>
    by_cases hc : v < leastOf n ∨ scal v = false
    · have e : finN n (some v) = (0, 0) := by rw [finN, if_pos hc]
      rw [e] at h
      exact absurd rfl h
    · have e : finN n (some v) = (v, n) := by rw [finN, if_neg hc]
      rw [e]
      refine ⟨rfl, ?_⟩
      have hs : scal v = true := by cases hs : scal v with
        | true => rfl
        | false => exact absurd (Or.inr hs) hc
      have := scal_nonneg hs
      omega
theorem nextP_bound {r : List UInt8} (h : (nextP r).2 ≠ 0) : (nextP r).2 ≤ r.length ∧ 0 ≤ (nextP r).1 ∧ (nextP r).1 ≤ 1114111 := by
  cases r with
  | nil => exact absurd rfl h
  | cons c t =>
    by_cases hc : leadN c.toNat = 0 ∨ t.length + 1 < leadN c.toNat
    · rw [nextP_none hc] at h
      exact absurd rfl h
    · have e : nextP (c :: t) = finN (leadN c.toNat) (tailV (leadV c.toNat) t (leadN c.toNat - 1)) := by rw [nextP, if_neg hc]
      rw [e] at h ⊢
      have := finN_bound h
      refine ⟨?_, this.2⟩
      rw [this.1]
      simp
      omega
theorem nextAt_bound {l : List UInt8} {i v : Int} {n : Nat} (h : nextAt l i = (v, n)) (hn : n ≠ 0) : 0 ≤ i ∧ i + n ≤ l.length ∧ 0 ≤ v ∧ v ≤ 1114111 := by
  unfold nextAt at h
  by_cases hi : i < 0 ∨ (l.length : Int) ≤ i
  · rw [if_pos hi] at h
    cases h
    exact absurd rfl hn
  · rw [if_neg hi] at h
    have hb := nextP_bound (r := l.drop i.toNat) (by rw [h]; exact hn)
    rw [h] at hb
    simp at hb
    omega

/-- the end of what has begun: at place i; so far it ends at e -/
def tailF (l : List UInt8) (i e : Nat) : Nat :=
  if _h : (nextAt l i).2 = 0 ∨ ((nextAt l i).1 ≠ 46 ∧ followB (nextAt l i).1 = false) then e
  else tailF l (i + (nextAt l i).2) (if (nextAt l i).1 = 46 then e else i + (nextAt l i).2)
termination_by l.length - i
decreasing_by
  have hn : (nextAt l i).2 ≠ 0 := fun x => _h (Or.inl x)
  have := nextAt_bound (l := l) (i := (i : Int)) (v := (nextAt l i).1) (n := (nextAt l i).2) rfl hn
  omega
theorem tailF_stop {l : List UInt8} {i e n : Nat} {v : Int} (h : nextAt l i = (v, n)) (hs : n = 0 ∨ (v ≠ 46 ∧ followB v = false)) : tailF l i e = e := by rw [tailF, h, dif_pos hs]
theorem tailF_go {l : List UInt8} {i e n : Nat} {v : Int} (h : nextAt l i = (v, n)) (hs : ¬ (n = 0 ∨ (v ≠ 46 ∧ followB v = false))) : tailF l i e = tailF l (i + n) (if v = 46 then e else i + n) := by rw [tailF, h, dif_neg hs]
/-- how many bytes has the longest such text at a place -/
def runF (first : Int → Bool) (l : List UInt8) (at_ : Int) : Nat :=
  if (nextAt l at_).2 = 0 ∨ first (nextAt l at_).1 = false then 0 else tailF l (at_.toNat + (nextAt l at_).2) (at_.toNat + (nextAt l at_).2) - at_.toNat
theorem runF_no {first : Int → Bool} {l : List UInt8} {a v : Int} {n : Nat} (h : nextAt l a = (v, n)) (hs : n = 0 ∨ first v = false) : runF first l a = 0 := by unfold runF; rw [h, if_pos hs]
theorem runF_go {first : Int → Bool} {l : List UInt8} {a n : Nat} {v : Int} (h : nextAt l a = (v, n)) (hs : ¬ (n = 0 ∨ first v = false)) : runF first l a = tailF l (a + n) (a + n) - a := by
  unfold runF; rw [h, if_neg hs, Int.toNat_natCast]
theorem tailF_ge (l : List UInt8) : ∀ (k i e : Nat), l.length - i ≤ k → e ≤ i → e ≤ tailF l i e
  | k, i, e, hk, he => by
    by_cases hs : (nextAt l i).2 = 0 ∨ ((nextAt l i).1 ≠ 46 ∧ followB (nextAt l i).1 = false)
    · rw [tailF_stop rfl hs]; exact Nat.le_refl _
    · rw [tailF_go rfl hs]
      have hn : (nextAt l i).2 ≠ 0 := fun x => hs (Or.inl x)
      have hb := nextAt_bound (l := l) (i := (i : Int)) (v := (nextAt l i).1) (n := (nextAt l i).2) rfl hn
      match k with
      | 0 => omega
      | k + 1 =>
        have := tailF_ge l k (i + (nextAt l i).2) (if (nextAt l i).1 = 46 then e else i + (nextAt l i).2) (by omega) (by split <;> omega)
        refine Nat.le_trans ?_ this
        split <;> omega

theorem label_not_dot {v : Int} (h : labelB v = true) : v ≠ 46 := by
  intro e
  subst e
  revert h
  decide
theorem label_follow {v : Int} (h : labelB v = true) : followB v = true := by
  unfold labelB at h
  unfold followB
  rw [h]
  rfl
end Go.Proofs.YtfjcbodkjjmagaaDoor
