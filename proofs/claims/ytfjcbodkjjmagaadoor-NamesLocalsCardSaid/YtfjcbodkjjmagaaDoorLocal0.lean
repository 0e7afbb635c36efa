/-
  What a local name says, in plain words. No program in sight. By an AI agent.
-/
import Derived.Test.YtfjcbodkjjmagaaDoorPieces0
namespace Go.Proofs.YtfjcbodkjjmagaaDoor
open Go.RowKit
set_option maxRecDepth 100000

/-- is it an escaped piece at a text's front? -/
def esc2 (r : List UInt8) : Bool := match r with
  | a :: b :: _ => decide (a = 92) && escB (b.toNat : Int)
  | _ => false
theorem esc2_front {r : List UInt8} (h : esc2 r = true) : ∃ b t, r = 92 :: b :: t ∧ escB (b.toNat : Int) = true := by
  match r, h with
  | a :: b :: t, h =>
    simp [esc2] at h
    exact ⟨b, t, by rw [h.1], h.2⟩
  | [], h => cases h
  | [_], h => cases h
/-- a byte below 128 at a place is its scalar -/
theorem nextAt_low {l : List UInt8} {j : Nat} {c : UInt8} {t : List UInt8} (h : l.drop j = c :: t) (hc : c.toNat < 128) : nextAt l j = ((c.toNat : Int), 1) := by
  rw [nextAt_nat, h, nextP_1 hc]
/-- a scalar below 128 is the byte at the place -/
theorem nextAt_head {l : List UInt8} {j : Nat} {c : UInt8} {t : List UInt8} {v : Int} {n : Nat} (h : nextAt l j = (v, n)) (hn : n ≠ 0) (hv : v < 128) (hd : l.drop j = c :: t) : v = (c.toNat : Int) := by
  have h1 := nextAt_ascii h hn hv
  by_cases hc : c.toNat < 128
  · rw [nextAt_low hd hc] at h
    cases h
    rfl
  · exfalso
    rw [nextAt_nat, hd] at h
    by_cases hb : leadN c.toNat = 0 ∨ t.length + 1 < leadN c.toNat
    · rw [nextP_none hb] at h; cases h; exact hn rfl
    · have e : nextP (c :: t) = finN (leadN c.toNat) (tailV (leadV c.toNat) t (leadN c.toNat - 1)) := by rw [nextP, if_neg hb]
      rw [e] at h
      cases ho : tailV (leadV c.toNat) t (leadN c.toNat - 1) with
      | none => rw [ho] at h; cases h; exact hn rfl
      | some x =>
        rw [ho, finN] at h
        by_cases hx : x < leastOf (leadN c.toNat) ∨ scal x = false
        · rw [if_pos hx] at h; cases h; exact hn rfl
        · rw [if_neg hx] at h
          cases h
          unfold leadN at h1
          repeat' split at h1
          all_goals omega
/-- what stands at a place: what it says, how many bytes it has; or the error -/
def stepL (l : List UInt8) (j : Nat) : (List UInt8 × Nat) ⊕ Int :=
  if percB (l.drop j) = true then .inl ((l.drop j).take 3, 3)
  else if esc2 (l.drop j) = true then .inl ((l.drop (j + 1)).take 1, 2)
  else if (nextAt l j).2 = 0 then .inr 40
  else if (nextAt l j).1 = 37 ∨ (nextAt l j).1 = 92 then .inr 62
  else if standsB (nextAt l j).1 (decide (j = 0)) (decide (j + (nextAt l j).2 = l.length)) = true then .inl ((l.drop j).take (nextAt l j).2, (nextAt l j).2)
  else .inr 62
theorem stepL_bound {l : List UInt8} {j n : Nat} {t : List UInt8} (h : stepL l j = .inl (t, n)) : 0 < n ∧ j + n ≤ l.length ∧ t.length ≤ n := by
  unfold stepL at h
  obtain ⟨v, m, hq⟩ : ∃ v m, nextAt l (j : Int) = (v, m) := ⟨_, _, rfl⟩
  rw [hq] at h
  simp only at h
  split at h
  · next hp =>
    have := percB_len hp
    simp at this
    cases h
    simp
    omega
  · split at h
    · next he =>
      obtain ⟨b, t', e, _⟩ := esc2_front he
      have := congrArg List.length e
      simp at this
      cases h
      simp
      omega
    · split at h
      · cases h
      · next hm =>
        have hb := nextAt_bound hq hm
        split at h
        · cases h
        · split at h
          · cases h
            simp
            omega
          · cases h
/-- what the local name from a place on says; or the place and the error -/
def locF (l : List UInt8) (j : Nat) : List UInt8 ⊕ (Nat × Int) :=
  if l.length ≤ j then .inl [] else match _h : stepL l j with
    | .inr e => .inr (j, e)
    | .inl (t, n) => match locF l (j + n) with
      | .inl r => .inl (t ++ r)
      | .inr e => .inr e
termination_by l.length - j
decreasing_by have := stepL_bound _h; omega
/-- behind what has been said -/
def putF (acc : List UInt8) : List UInt8 ⊕ (Nat × Int) → List UInt8 ⊕ (Nat × Int)
  | .inl r => .inl (acc ++ r)
  | .inr e => .inr e
theorem putF_nil (x : List UInt8 ⊕ (Nat × Int)) : putF [] x = x := by cases x <;> rfl
theorem putF_put (a b : List UInt8) (x : List UInt8 ⊕ (Nat × Int)) : putF a (putF b x) = putF (a ++ b) x := by cases x <;> simp [putF]
theorem locF_end {l : List UInt8} {j : Nat} (h : l.length ≤ j) : locF l j = .inl [] := by rw [locF, if_pos h]
theorem locF_bad {l : List UInt8} {j : Nat} {e : Int} (h : j < l.length) (hs : stepL l j = .inr e) : locF l j = .inr (j, e) := by
  rw [locF, if_neg (by omega)]
  split
  · next e' h' => rw [hs] at h'; cases h'; rfl
  · next t n h' => rw [hs] at h'; cases h'
theorem locF_step {l : List UInt8} {j n : Nat} {t : List UInt8} (h : j < l.length) (hs : stepL l j = .inl (t, n)) : locF l j = putF t (locF l (j + n)) := by
  rw [locF, if_neg (by omega)]
  split
  · next e' h' => rw [hs] at h'; cases h'
  · next t' n' h' => rw [hs] at h'; cases h'; cases locF l (j + n) <;> rfl

/-- what names.piece answers: what it says, how many bytes, the scalar (or -1: said; -2, -3: errors) -/
def pieceF (l : List UInt8) (j : Nat) : List UInt8 × Nat × Int :=
  if percB (l.drop j) = true then ((l.drop j).take 3, 3, -1)
  else if esc2 (l.drop j) = true then ((l.drop (j + 1)).take 1, 2, -1)
  else if (nextAt l j).2 = 0 then ([], 0, -3)
  else if (nextAt l j).1 = 37 ∨ (nextAt l j).1 = 92 then ([], 1, -2)
  else ((l.drop j).take (nextAt l j).2, (nextAt l j).2, (nextAt l j).1)
end Go.Proofs.YtfjcbodkjjmagaaDoor
