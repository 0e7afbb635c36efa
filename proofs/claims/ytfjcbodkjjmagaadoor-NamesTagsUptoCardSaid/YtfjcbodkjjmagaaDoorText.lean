/-
  Texts cut at their hyphens and put together again: the plain words. No program in sight. By an AI agent.
-/
import Derived.Test.YtfjcbodkjjmagaaDoorKit
namespace Go.Proofs.YtfjcbodkjjmagaaDoor
open Go.RowKit
set_option maxRecDepth 100000

def strV (l : List UInt8) : Value := .string (B l)

/-- a text's parts, between its hyphens -/
def partsOf : List UInt8 → List (List UInt8)
  | [] => [[]]
  | c :: r => if c = 45 then [] :: partsOf r else match partsOf r with
    | h :: t => (c :: h) :: t
    | [] => [[c]]
/-- parts, with hyphens between -/
def joinD : List (List UInt8) → List UInt8
  | [] => []
  | [p] => p
  | p :: q :: r => p ++ 45 :: joinD (q :: r)

theorem partsOf_ne (l : List UInt8) : partsOf l ≠ [] := by
  cases l with
  | nil => simp [partsOf]
  | cons c r =>
    unfold partsOf
    split
    · simp
    · split <;> simp
theorem partsOf_plain : ∀ (l : List UInt8), (∀ c ∈ l, c ≠ 45) → partsOf l = [l]
  | [], _ => rfl
  | c :: r, h => by
    have hr := partsOf_plain r (fun x hx => h x (List.mem_cons_of_mem _ hx))
    unfold partsOf
    rw [if_neg (h c (List.mem_cons_self ..)), hr]
theorem partsOf_cut : ∀ (a b : List UInt8), (∀ c ∈ a, c ≠ 45) → partsOf (a ++ 45 :: b) = a :: partsOf b
  | [], b, _ => by simp [partsOf]
  | c :: r, b, h => by
    have hr := partsOf_cut r b (fun x hx => h x (List.mem_cons_of_mem _ hx))
    rw [List.cons_append, partsOf, if_neg (h c (List.mem_cons_self ..)), hr]
theorem partsOf_length_le : ∀ (l : List UInt8), (partsOf l).length ≤ l.length + 1
  | [] => by simp [partsOf]
  | c :: r => by
    have h := partsOf_length_le r
    unfold partsOf
    split
    · simp; omega
    · split
      · next p t e => rw [e] at h; simp at h ⊢; omega
      · simp
theorem joinD_snoc (l : List (List UInt8)) (p : List UInt8) (h : l ≠ []) : joinD (l ++ [p]) = joinD l ++ 45 :: p := by
  induction l with
  | nil => exact absurd rfl h
  | cons a r ih =>
    cases r with
    | nil => simp [joinD]
    | cons b t =>
      have := ih (by simp)
      simp only [List.cons_append, joinD] at this ⊢
      rw [this]
      simp
theorem joinD_partsOf : ∀ (l : List UInt8), joinD (partsOf l) = l
  | [] => rfl
  | c :: r => by
    have h := joinD_partsOf r
    have hn := partsOf_ne r
    unfold partsOf
    split
    · next e =>
      subst e
      match hp : partsOf r, hn with
      | p :: t, _ => rw [hp] at h; simp [joinD, h]
    · split
      · next p t e =>
        rw [e] at h
        cases t with
        | nil => simp only [joinD] at h ⊢; rw [h]
        | cons q t => simp only [joinD, List.cons_append] at h ⊢; rw [h]
      · next e => exact absurd e hn
theorem partsOf_hy : ∀ (l : List UInt8), ∀ p ∈ partsOf l, ∀ c ∈ p, c ≠ 45
  | [], p, hp, c, hc => by simp [partsOf] at hp; subst hp; cases hc
  | x :: r, p, hp, c, hc => by
    have ih := partsOf_hy r
    unfold partsOf at hp
    split at hp
    · simp at hp
      rcases hp with rfl | hp
      · cases hc
      · exact ih p hp c hc
    · next hx =>
      split at hp
      · next h t e =>
        simp at hp
        rcases hp with rfl | hp
        · simp at hc
          rcases hc with rfl | hc
          · exact hx
          · exact ih h (by rw [e]; simp) c hc
        · exact ih p (by rw [e]; simp [hp]) c hc
      · simp at hp
        subst hp
        simp at hc
        subst hc
        exact hx
end Go.Proofs.YtfjcbodkjjmagaaDoor
