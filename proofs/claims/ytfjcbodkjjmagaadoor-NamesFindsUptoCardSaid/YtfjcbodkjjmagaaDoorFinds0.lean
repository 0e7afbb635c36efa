/-
  What the search answers comes from both lists: the plain part. No program in sight. By an AI agent.
-/
import Derived.Test.YtfjcbodkjjmagaaDoorLook
namespace Go.Proofs.YtfjcbodkjjmagaaDoor
open Go.RowKit
set_option maxRecDepth 100000

theorem joinD_append : ∀ (a b : List (List UInt8)), a ≠ [] → b ≠ [] → joinD (a ++ b) = joinD a ++ 45 :: joinD b
  | [], _, h, _ => absurd rfl h
  | [p], b, _, hb => by
    obtain ⟨q, r, rfl⟩ := List.exists_cons_of_ne_nil hb
    rfl
  | p :: q :: r, b, _, hb => by
    have ih := joinD_append (q :: r) b (by simp) hb
    simp only [List.cons_append, joinD] at ih ⊢
    rw [ih, List.append_assoc, List.cons_append]
theorem shorterL_prefix (s : List UInt8) : shorterL s = [] ∨ (shorterL s ++ [45]) <+: s := by
  unfold shorterL
  have hn : (partsOf s).reverse ≠ [] := by simp [partsOf_ne]
  obtain ⟨q, r, hp⟩ := List.exists_cons_of_ne_nil hn
  rw [hp, List.drop_succ_cons, List.drop_zero]
  obtain ⟨u, hu⟩ := trimR_suffix r
  by_cases ht : trimR r = []
  · rw [ht]; exact .inl rfl
  · refine .inr ⟨joinD (u.reverse ++ [q]), ?_⟩
    have e : partsOf s = (trimR r).reverse ++ (u.reverse ++ [q]) := by
      have e0 : partsOf s = r.reverse ++ [q] := by rw [← List.reverse_reverse (partsOf s), hp]; simp
      have e1 : r.reverse = (trimR r).reverse ++ u.reverse := by conv => lhs; rw [← hu]
                                                                 simp
      rw [e0, e1, List.append_assoc]
    have hj := joinD_partsOf s
    rw [e, joinD_append _ _ (by simpa using ht) (by simp)] at hj
    rw [List.append_assoc]
    exact hj
theorem findIn_some {tags : List (List UInt8)} {s t : List UInt8} (h : findIn tags s = some t) : t ∈ tags ∧ lowL t = s :=
  ⟨List.mem_of_find?_eq_some h, by have := List.find?_some h; simpa using this⟩
theorem findIn_none {tags : List (List UInt8)} {s : List UInt8} (h : findIn tags s = none) : ∀ t ∈ tags, lowL t ≠ s := fun t ht => by
  have := List.find?_eq_none.1 h t ht
  simpa using this
theorem chaseN_some (tags : List (List UInt8)) : ∀ (n : Nat) (s t : List UInt8), s.length ≤ n → chaseN tags s = some t → t ∈ tags ∧ lowL t ≠ [] ∧ (lowL t = s ∨ (lowL t ++ [45]) <+: s)
  | n, s, t, hn, h => by
    by_cases h0 : s = []
    · rw [h0, chaseN_nil] at h; cases h
    cases hf : findIn tags s with
    | some u =>
      rw [chaseN_hit h0 hf] at h
      cases h
      obtain ⟨h1, h2⟩ := findIn_some hf
      exact ⟨h1, by rw [h2]; exact h0, .inl h2⟩
    | none =>
      rw [chaseN_miss h0 hf] at h
      have hl := shorterL_length s h0
      match n, hn with
      | 0, hn => omega
      | n + 1, hn =>
        obtain ⟨h1, h2, h3⟩ := chaseN_some tags n (shorterL s) t (by omega) h
        refine ⟨h1, h2, .inr ?_⟩
        rcases shorterL_prefix s with he | hp
        · rw [he, chaseN_nil] at h; cases h
        · rcases h3 with h3 | h3
          · rw [h3]; exact hp
          · exact h3.trans ((List.prefix_append _ _).trans hp)
/-- does the text found come from this span? -/
def fromB (t sp : List UInt8) : Bool := !(sp == [42]) && (lowL sp == lowL t || (lowL t ++ [45]).isPrefixOf (lowL sp))
theorem lookN_some {tags : List (List UInt8)} {t : List UInt8} : ∀ {spans : List (List UInt8)}, lookN spans tags = some t → t ∈ tags ∧ t ≠ [] ∧ ∃ sp ∈ spans, fromB t sp = true
  | [], h => by cases h
  | sp :: r, h => by
    unfold lookN at h
    by_cases hs : sp = [42]
    · rw [look, if_pos hs] at h
      obtain ⟨h1, h2, x, hx, h3⟩ := lookN_some (spans := r) h
      exact ⟨h1, h2, x, List.mem_cons_of_mem _ hx, h3⟩
    · rw [look, if_neg hs] at h
      cases hc : chaseN tags (lowL sp) with
      | some u =>
        rw [hc] at h
        cases h
        obtain ⟨h1, h2, h3⟩ := chaseN_some tags _ _ _ (Nat.le_refl _) hc
        refine ⟨h1, fun e => h2 (by rw [e]; rfl), sp, List.mem_cons_self .., ?_⟩
        unfold fromB
        rw [beq_eq_false_iff_ne.2 hs, Bool.not_false, Bool.true_and, Bool.or_eq_true, beq_iff_eq, List.isPrefixOf_iff_prefix]
        exact h3.imp Eq.symm id
      | none =>
        rw [hc] at h
        obtain ⟨h1, h2, x, hx, h3⟩ := lookN_some (spans := r) h
        exact ⟨h1, h2, x, List.mem_cons_of_mem _ hx, h3⟩
theorem lookN_none {tags : List (List UInt8)} : ∀ {spans : List (List UInt8)}, lookN spans tags = none → ∀ sp ∈ spans, sp ≠ [] → sp ≠ [42] → ∀ t ∈ tags, lowL sp ≠ lowL t
  | [], _, sp, hsp, _, _, _, _ => by cases hsp
  | x :: r, h, sp, hsp, h0, h42, t, ht => by
    unfold lookN at h
    by_cases hs : x = [42]
    · rw [look, if_pos hs] at h
      rcases List.mem_cons.1 hsp with rfl | hsp
      · exact absurd hs h42
      · exact lookN_none (spans := r) h sp hsp h0 h42 t ht
    · rw [look, if_neg hs] at h
      cases hc : chaseN tags (lowL x) with
      | some u => rw [hc] at h; cases h
      | none =>
        rw [hc] at h
        rcases List.mem_cons.1 hsp with rfl | hsp
        · have hl : lowL sp ≠ [] := by simpa [lowL] using h0
          cases hf : findIn tags (lowL sp) with
          | some u => rw [chaseN_hit hl hf] at hc; cases hc
          | none => exact (findIn_none hf t ht).symm
        · exact lookN_none (spans := r) h sp hsp h0 h42 t ht
theorem lookN_star (tags : List (List UInt8)) : lookN [[42]] tags = none := rfl
end Go.Proofs.YtfjcbodkjjmagaaDoor
