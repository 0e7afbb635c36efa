/-
  The pieces of a local name: the plain words. No program in sight. By an AI agent.
-/
import Derived.Test.YtfjcbodkjjmagaaDoorRun0
import Derived.Lib.Index
namespace Go.Proofs.YtfjcbodkjjmagaaDoor
open Go.RowKit
set_option maxRecDepth 100000

def hexB (c : Int) : Bool := decide (48 ≤ c ∧ c ≤ 57) || decide (97 ≤ c ∧ c ≤ 102) || decide (65 ≤ c ∧ c ≤ 70)
/-- does a percent piece stand at a text's front? -/
def percB (r : List UInt8) : Bool := match r with
  | a :: b :: c :: _ => decide (a = 37) && (hexB (b.toNat : Int) && hexB (c.toNat : Int))
  | _ => false
def escs : List UInt8 := [95, 126, 46, 45, 33, 36, 38, 39, 40, 41, 42, 43, 44, 59, 61, 47, 63, 35, 64, 37]
def escB (r : Int) : Bool := escs.any fun c => (c.toNat : Int) == r
/-- may a scalar stand as it is: as the first piece, as the last one, or between? -/
def standsB (r : Int) (first last : Bool) : Bool := decide (r = 58) || (match first, last with
  | true, _ => startB r || digitB r
  | false, true => followB r
  | false, false => followB r || decide (r = 46))
theorem percB_short {r : List UInt8} (h : r.length < 3) : percB r = false := by
  match r, h with
  | [], _ => rfl
  | [_], _ => rfl
  | [_, _], _ => rfl
theorem percB_at {r : List UInt8} (h : 3 ≤ r.length) : percB r = (decide (r[0] = 37) && (hexB (r[1].toNat : Int) && hexB (r[2].toNat : Int))) := by
  match r, h with
  | a :: b :: c :: t, _ => rfl
theorem percB_front {r : List UInt8} (h : percB r = true) : ∃ t, r = 37 :: t := by
  match r, h with
  | a :: b :: c :: t, h =>
    simp [percB] at h
    exact ⟨b :: c :: t, by rw [h.1]⟩
  | [], h => cases h
  | [_], h => cases h
  | [_, _], h => cases h

theorem take_drop_len (l : List UInt8) (j : Nat) : (l.drop j).take (l.length - j) = l.drop j := List.take_of_length_le (by simp)
attribute [go_sem] take_drop_len
theorem least_big (n : Nat) (h : n = 2 ∨ n = 3 ∨ n = 4) : 128 ≤ leastOf n := by rcases h with rfl | rfl | rfl <;> decide
theorem leadN_cases (c : Nat) : leadN c = 0 ∨ leadN c = 1 ∨ leadN c = 2 ∨ leadN c = 3 ∨ leadN c = 4 := by
  unfold leadN
  repeat' split
  all_goals omega
/-- an ASCII scalar has one byte -/
theorem nextAt_ascii {l : List UInt8} {i v : Int} {n : Nat} (h : nextAt l i = (v, n)) (hn : n ≠ 0) (hv : v < 128) : n = 1 := by
  unfold nextAt at h
  by_cases hi : i < 0 ∨ (l.length : Int) ≤ i
  · rw [if_pos hi] at h; cases h; exact absurd rfl hn
  · rw [if_neg hi] at h
    cases hr : l.drop i.toNat with
    | nil => rw [hr] at h; cases h; exact absurd rfl hn
    | cons c t =>
      rw [hr] at h
      by_cases hc : leadN c.toNat = 0 ∨ t.length + 1 < leadN c.toNat
      · rw [nextP_none hc] at h; cases h; exact absurd rfl hn
      · have e : nextP (c :: t) = finN (leadN c.toNat) (tailV (leadV c.toNat) t (leadN c.toNat - 1)) := by rw [nextP, if_neg hc]
        rw [e] at h
        cases ho : tailV (leadV c.toNat) t (leadN c.toNat - 1) with
        | none => rw [ho] at h; cases h; exact absurd rfl hn
        | some x =>
          rw [ho, finN] at h
          by_cases hx : x < leastOf (leadN c.toNat) ∨ scal x = false
          · rw [if_pos hx] at h; cases h; exact absurd rfl hn
          · rw [if_neg hx] at h
            cases h
            have hl := leadN_cases c.toNat
            have hb := least_big (leadN c.toNat)
            omega
theorem percB_len {r : List UInt8} (h : percB r = true) : 3 ≤ r.length := by
  rcases Nat.lt_or_ge r.length 3 with h' | h'
  · rw [percB_short h'] at h; cases h
  · exact h'
/-- where a percent piece stands, its scalar is the percent sign, of one byte -/
theorem percB_next {l : List UInt8} {j : Nat} (h : percB (l.drop j) = true) : nextAt l j = (37, 1) := by
  obtain ⟨t, ht⟩ := percB_front h
  rw [nextAt_nat, ht, nextP_1 (by decide)]
  rfl

/-- one step of spelling: what is written, and how many bytes are gone through -/
def stepS (l : List UInt8) (j : Nat) : Option (List UInt8 × Nat) :=
  if (nextAt l j).2 = 0 then none
  else if standsB (nextAt l j).1 (decide (j = 0)) (decide (j + (nextAt l j).2 = l.length)) = true then some ((l.drop j).take (nextAt l j).2, (nextAt l j).2)
  else if percB (l.drop j) = true then some ((l.drop j).take 3, 3)
  else if escB (nextAt l j).1 = true then some (92 :: (l.drop j).take 1, (nextAt l j).2)
  else none
theorem stepS_bound {l : List UInt8} {j n : Nat} {t : List UInt8} (h : stepS l j = some (t, n)) : 0 < n ∧ j + n ≤ l.length ∧ t.length ≤ n + 1 := by
  unfold stepS at h
  obtain ⟨v, m, hq⟩ : ∃ v m, nextAt l (j : Int) = (v, m) := ⟨_, _, rfl⟩
  rw [hq] at h
  by_cases hm : m = 0
  · rw [if_pos hm] at h; cases h
  · have hb := nextAt_bound hq hm
    rw [if_neg hm] at h
    simp only at h
    split at h
    · cases h; simp; omega
    · split at h
      · next hp =>
        have := percB_len hp
        simp at this
        cases h
        simp
        omega
      · split at h
        · cases h; simp; omega
        · cases h
/-- the spelling of what stands from a place on -/
def spellF (l : List UInt8) (j : Nat) : Option (List UInt8) :=
  if l.length ≤ j then some [] else match _h : stepS l j with
    | none => none
    | some (t, n) => (spellF l (j + n)).map (t ++ ·)
termination_by l.length - j
decreasing_by have := stepS_bound _h; omega
theorem spellF_end {l : List UInt8} {j : Nat} (h : l.length ≤ j) : spellF l j = some [] := by rw [spellF, if_pos h]
theorem spellF_none {l : List UInt8} {j : Nat} (h : j < l.length) (hs : stepS l j = none) : spellF l j = none := by
  rw [spellF, if_neg (by omega)]
  split
  · rfl
  · next t n e => rw [hs] at e; cases e
theorem spellF_some {l : List UInt8} {j n : Nat} {t : List UInt8} (h : j < l.length) (hs : stepS l j = some (t, n)) : spellF l j = (spellF l (j + n)).map (t ++ ·) := by
  rw [spellF, if_neg (by omega)]
  split
  · next e => rw [hs] at e; cases e
  · next t' n' e => rw [hs] at e; cases e; rfl
end Go.Proofs.YtfjcbodkjjmagaaDoor
