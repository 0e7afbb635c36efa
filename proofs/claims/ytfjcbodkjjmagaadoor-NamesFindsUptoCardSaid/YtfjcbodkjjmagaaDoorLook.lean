/-
  Looking a range up among tags, as the program does it (texts cut at their last hyphen) and as the reference does it (lists of parts): one answer. No program in sight. By an AI agent.
-/
import Derived.Test.YtfjcbodkjjmagaaDoorGPlain
import Derived.Lib.LastIndexByte
namespace Go.Proofs.YtfjcbodkjjmagaaDoor
open Go.RowKit
set_option maxRecDepth 100000

theorem partsOf_append (a b : List UInt8) : partsOf (a ++ 45 :: b) = partsOf a ++ partsOf b := by
  induction a with
  | nil => simp [partsOf]
  | cons c r ih =>
    rw [List.cons_append, partsOf, partsOf]
    split
    · rw [ih]; rfl
    · rw [ih]
      have hn := partsOf_ne r
      match hp : partsOf r, hn with
      | p :: t, _ => simp

/-- parts, the last one first, without the last ones of one byte (the first part of all stays) -/
def trimR : List (List UInt8) → List (List UInt8)
  | p :: q :: r => if p.length = 1 then trimR (q :: r) else p :: q :: r
  | l => l
theorem trimR_length : ∀ l : List (List UInt8), (trimR l).length ≤ l.length
  | [] => by simp [trimR]
  | [p] => by simp [trimR]
  | p :: q :: r => by
    have := trimR_length (q :: r)
    unfold trimR
    split
    · simp at this ⊢; omega
    · simp
theorem trimR_suffix : ∀ l : List (List UInt8), trimR l <:+ l
  | [] => by simp [trimR]
  | [p] => by simp [trimR]
  | p :: q :: r => by
    have := trimR_suffix (q :: r)
    unfold trimR
    split
    · exact this.trans (List.suffix_cons ..)
    · exact List.suffix_refl _
theorem trimR_ne : ∀ l : List (List UInt8), l ≠ [] → trimR l ≠ []
  | [], h => absurd rfl h
  | [p], _ => by simp [trimR]
  | p :: q :: r, _ => by
    have := trimR_ne (q :: r) (by simp)
    unfold trimR
    split
    · exact this
    · simp
/-- a text without its last parts of one byte -/
def trimL (a : List UInt8) : List UInt8 := joinD (trimR (partsOf a).reverse).reverse
/-- what 'shorter' is -/
def shorterL (s : List UInt8) : List UInt8 := joinD (trimR ((partsOf s).reverse.drop 1)).reverse

theorem trimL_plain (a : List UInt8) (h : ∀ c ∈ a, c ≠ 45) : trimL a = a := by
  unfold trimL
  rw [partsOf_plain a h]
  simp [trimR, joinD]
theorem trimL_stay (a b : List UInt8) (hb : ∀ c ∈ b, c ≠ 45) (h1 : b.length ≠ 1) : trimL (a ++ 45 :: b) = a ++ 45 :: b := by
  unfold trimL
  have e : (partsOf (a ++ 45 :: b)).reverse = b :: (partsOf a).reverse := by rw [partsOf_append, partsOf_plain b hb]; simp
  have hn : (partsOf a).reverse ≠ [] := by simp [partsOf_ne]
  match hp : (partsOf a).reverse, hn with
  | q :: r, _ =>
    rw [e, hp, trimR, if_neg h1, ← hp, ← e, List.reverse_reverse, joinD_partsOf]
theorem trimL_cut (a b : List UInt8) (hb : ∀ c ∈ b, c ≠ 45) (h1 : b.length = 1) : trimL (a ++ 45 :: b) = trimL a := by
  unfold trimL
  have e : (partsOf (a ++ 45 :: b)).reverse = b :: (partsOf a).reverse := by rw [partsOf_append, partsOf_plain b hb]; simp
  have hn : (partsOf a).reverse ≠ [] := by simp [partsOf_ne]
  match hp : (partsOf a).reverse, hn with
  | q :: r, _ => rw [e, hp, trimR, if_pos h1]
theorem shorterL_plain (a : List UInt8) (h : ∀ c ∈ a, c ≠ 45) : shorterL a = [] := by
  unfold shorterL
  rw [partsOf_plain a h]
  simp [trimR, joinD]
theorem shorterL_cut (a b : List UInt8) (hb : ∀ c ∈ b, c ≠ 45) : shorterL (a ++ 45 :: b) = trimL a := by
  unfold shorterL trimL
  rw [partsOf_append, partsOf_plain b hb]
  simp

/-- a last hyphen's place, as the library tells it: the text parted there -/
theorem last_hyphen (s : ByteArray) : (Lib.lastIndexByte s 45 = -1 ∧ ∀ c ∈ s.data.toList, c ≠ 45) ∨
    ∃ i : Nat, i < s.size ∧ Lib.lastIndexByte s 45 = i ∧ s.data.toList = s.data.toList.take i ++ 45 :: s.data.toList.drop (i + 1) ∧ ∀ c ∈ s.data.toList.drop (i + 1), c ≠ 45 := by
  have toB : ∀ j (h : j < s.data.toList.length), s.data[j]! = s.data.toList[j] := fun j h => by
    have h' : j < s.data.size := by simpa using h
    rw [getElem!_pos s.data j h']; rfl
  have n45 : ∀ c : UInt8, ((c.toNat : Nat) : Int) ≠ 45 → c ≠ 45 := fun c h e => h (by rw [e]; rfl)
  rcases Lib.lastIdx_spec s 45 s.size with ⟨h1, h2⟩ | ⟨i, hi, h1, h2, h3⟩
  · refine .inl ⟨h1, fun c hc => ?_⟩
    obtain ⟨j, hj, rfl⟩ := List.getElem_of_mem hc
    have := h2 j (by simpa using hj)
    rw [toB j hj] at this
    exact n45 _ this
  · have hl : i < s.data.toList.length := by simpa using hi
    refine .inr ⟨i, hi, h1, ?_, fun c hc => ?_⟩
    · rw [toB i hl] at h2
      have e : s.data.toList[i] = 45 := UInt8.toNat_inj.1 (by show _ = 45; omega)
      conv => lhs; rw [← List.take_append_drop i s.data.toList, List.drop_eq_getElem_cons hl, e]
    · obtain ⟨j, hj, rfl⟩ := List.getElem_of_mem hc
      have hj' : i + 1 + j < s.data.toList.length := by simp at hj ⊢; omega
      have := h3 (i + 1 + j) (by omega) (by simpa using hj')
      rw [toB _ hj'] at this
      rw [List.getElem_drop]
      exact n45 _ this

theorem shorterL_length (s : List UInt8) (h : s ≠ []) : (shorterL s).length < s.length := by
  have hj : ∀ (a b : List (List UInt8)), b <:+ a → (joinD b.reverse).length ≤ (joinD a.reverse).length := by
    intro a b ⟨t, ht⟩
    subst ht
    induction t with
    | nil => simp
    | cons x t ih =>
      refine Nat.le_trans ih ?_
      rw [List.cons_append, List.reverse_cons]
      by_cases he : (t ++ b).reverse = []
      · rw [he]; exact Nat.zero_le _
      · rw [joinD_snoc _ _ he]; simp
  unfold shorterL
  have hs := trimR_suffix ((partsOf s).reverse.drop 1)
  have h1 := hj _ _ hs
  have hn : (partsOf s).reverse ≠ [] := by simp [partsOf_ne]
  have h2 : (joinD ((partsOf s).reverse.drop 1).reverse).length < s.length := by
    match hp : (partsOf s).reverse, hn with
    | q :: r, _ =>
      have e : partsOf s = r.reverse ++ [q] := by rw [← List.reverse_reverse (partsOf s), hp]; simp
      have hjs := joinD_partsOf s
      rw [e] at hjs
      simp only [List.drop_succ_cons, List.drop_zero]
      by_cases hr : r.reverse = []
      · rw [hr]
        simp [joinD]
        cases s with
        | nil => exact absurd rfl h
        | cons c t => simp
      · rw [joinD_snoc _ _ hr] at hjs
        rw [← hjs]; simp
  omega

def findIn (tags : List (List UInt8)) (s : List UInt8) : Option (List UInt8) := tags.find? fun t => lowL t == s
/-- the program's search -/
def chaseN (tags : List (List UInt8)) (s : List UInt8) : Option (List UInt8) :=
  if _h : s = [] then none else match findIn tags s with
    | some t => some t
    | none => chaseN tags (shorterL s)
termination_by s.length
decreasing_by exact shorterL_length s _h
/-- the reference's search: the parts, the last one first -/
def chaseR (tags : List (List UInt8)) (rps : List (List UInt8)) : Option (List UInt8) :=
  match rps with
  | [] => none
  | p :: r => if joinD (p :: r).reverse = [] then none else match findIn tags (lowL (joinD (p :: r).reverse)) with
    | some t => some t
    | none => chaseR tags (trimR r)
termination_by rps.length
decreasing_by have := trimR_length r; simp; omega

theorem chaseN_nil (tags : List (List UInt8)) : chaseN tags [] = none := by rw [chaseN]; simp
theorem chaseN_hit {tags : List (List UInt8)} {s t : List UInt8} (h : s ≠ []) (hf : findIn tags s = some t) : chaseN tags s = some t := by rw [chaseN, dif_neg h, hf]
theorem chaseN_miss {tags : List (List UInt8)} {s : List UInt8} (h : s ≠ []) (hf : findIn tags s = none) : chaseN tags s = chaseN tags (shorterL s) := by rw [chaseN, dif_neg h, hf]

def look (f : List UInt8 → Option (List UInt8)) : List (List UInt8) → Option (List UInt8)
  | [] => none
  | sp :: r => if sp = [42] then look f r else match f sp with
    | some t => some t
    | none => look f r
def lookN (spans tags : List (List UInt8)) : Option (List UInt8) := look (fun sp => chaseN tags (lowL sp)) spans
def lookR (spans tags : List (List UInt8)) : Option (List UInt8) := look (fun sp => chaseR tags (partsOf sp).reverse) spans

theorem joinD_low : ∀ l : List (List UInt8), lowL (joinD l) = joinD (l.map lowL)
  | [] => rfl
  | [p] => rfl
  | p :: q :: r => by
    have := joinD_low (q :: r)
    simp only [joinD, List.map_cons, lowL, List.map_append] at this ⊢
    rw [this]
    have : lowB 45 = 45 := by decide
    rw [this]
theorem trimR_low : ∀ l : List (List UInt8), trimR (l.map lowL) = (trimR l).map lowL
  | [] => rfl
  | [p] => rfl
  | p :: q :: r => by
    have := trimR_low (q :: r)
    simp only [List.map_cons] at this ⊢
    rw [trimR, trimR, show (lowL p).length = p.length by simp [lowL]]
    split
    · exact this
    · simp
theorem partsOf_join : ∀ l : List (List UInt8), l ≠ [] → (∀ p ∈ l, ∀ c ∈ p, c ≠ 45) → partsOf (joinD l) = l
  | [], h, _ => absurd rfl h
  | [p], _, h => partsOf_plain p (h p (by simp))
  | p :: q :: r, _, h => by
    have ih := partsOf_join (q :: r) (by simp) (fun x hx => h x (List.mem_cons_of_mem _ hx))
    rw [joinD, partsOf_cut p _ (h p (by simp)), ih]
theorem lowB_hy (c : UInt8) (h : c ≠ 45) : lowB c ≠ 45 := by
  unfold lowB
  split
  · next hc =>
    intro e
    have := congrArg UInt8.toNat e
    rw [UInt8.toNat_add] at this
    simp at this
    omega
  · exact h
theorem lowL_hy (l : List (List UInt8)) (h : ∀ p ∈ l, ∀ c ∈ p, c ≠ 45) : ∀ p ∈ l.map lowL, ∀ c ∈ p, c ≠ 45 := by
  intro p hp c hc
  obtain ⟨q, hq, rfl⟩ := List.mem_map.1 hp
  obtain ⟨d, hd, rfl⟩ := List.mem_map.1 hc
  exact lowB_hy d (h q hq d hd)

/-- THE TWO SEARCHES ARE ONE -/
theorem chase_eq (tags : List (List UInt8)) : ∀ (n : Nat) (rps : List (List UInt8)), rps.length ≤ n → (∀ p ∈ rps, ∀ c ∈ p, c ≠ 45) → chaseR tags rps = chaseN tags (lowL (joinD rps.reverse))
  | 0, rps, hn, _ => by
    obtain rfl : rps = [] := by cases rps <;> simp_all
    rw [chaseR]
    simp [joinD, lowL, chaseN_nil]
  | n + 1, [], _, _ => by
    rw [chaseR]
    simp [joinD, lowL, chaseN_nil]
  | n + 1, p :: r, hn, hh => by
    rw [chaseR]
    by_cases h0 : joinD (p :: r).reverse = []
    · rw [if_pos h0, h0]
      simp [lowL, chaseN_nil]
    · rw [if_neg h0]
      have h0' : lowL (joinD (p :: r).reverse) ≠ [] := by simpa [lowL] using h0
      cases hf : findIn tags (lowL (joinD (p :: r).reverse)) with
      | some t => rw [chaseN_hit h0' hf]
      | none =>
        rw [chaseN_miss h0' hf]
        have hlen : (trimR r).length ≤ n := by have := trimR_length r; simp at hn; omega
        have hsub : ∀ q ∈ trimR r, q ∈ p :: r := fun q hq => List.mem_cons_of_mem _ ((trimR_suffix r).subset hq)
        simp only []
        rw [chase_eq tags n (trimR r) hlen (fun q hq => hh q (hsub q hq))]
        congr 1
        have e1 : partsOf (lowL (joinD (p :: r).reverse)) = ((p :: r).reverse).map lowL := by
          rw [joinD_low, partsOf_join _ (by simp)]
          exact lowL_hy _ (fun q hq => hh q (List.mem_reverse.1 hq))
        unfold shorterL
        rw [e1, ← List.map_reverse, List.reverse_reverse, List.map_cons, List.drop_succ_cons, List.drop_zero, trimR_low, joinD_low, List.map_reverse]

theorem look_eq (spans tags : List (List UInt8)) : lookR spans tags = lookN spans tags := by
  unfold lookR lookN
  congr 1
  funext sp
  rw [chase_eq tags _ _ (Nat.le_refl _) (fun p hp => partsOf_hy sp p (by simpa using hp)), List.reverse_reverse, joinD_partsOf]
end Go.Proofs.YtfjcbodkjjmagaaDoor
