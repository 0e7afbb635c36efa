/-
  What is a label, what a prefix's name: the program's way (the longest text, held against the whole) and the reference's (all scalars, one by one): one answer. No program in sight. By an AI agent.
-/
import Derived.Test.YtfjcbodkjjmagaaDoorRun0
namespace Go.Proofs.YtfjcbodkjjmagaaDoor
open Go.RowKit
set_option maxRecDepth 100000

/-- the scalars from a place on -/
def scalF (l : List UInt8) (i : Nat) : Option (List Int) :=
  if _h : l.length ≤ i then some [] else if _h2 : (nextAt l i).2 = 0 then none else (scalF l (i + (nextAt l i).2)).map ((nextAt l i).1 :: ·)
termination_by l.length - i
decreasing_by omega
theorem scalF_end {l : List UInt8} {i : Nat} (h : l.length ≤ i) : scalF l i = some [] := by rw [scalF, dif_pos h]
theorem scalF_none {l : List UInt8} {i : Nat} {v : Int} (h : i < l.length) (hq : nextAt l i = (v, 0)) : scalF l i = none := by rw [scalF, dif_neg (by omega), hq, dif_pos rfl]
theorem scalF_go {l : List UInt8} {i n : Nat} {v : Int} (h : i < l.length) (hq : nextAt l i = (v, n)) (hn : n ≠ 0) : scalF l i = (scalF l (i + n)).map (v :: ·) := by rw [scalF, dif_neg (by omega), hq, dif_neg hn]
/-- followers, and dots between -/
def okRest : List Int → Bool
  | [] => true
  | x :: t => (followB x || (x == 46 && !t.isEmpty)) && okRest t
theorem okRest_follow {x : Int} {t : List Int} (h : followB x = true) : okRest (x :: t) = okRest t := by rw [okRest, h]; rfl
theorem okRest_dot {t : List Int} (h : t ≠ []) : okRest (46 :: t) = okRest t := by
  cases t with
  | nil => exact absurd rfl h
  | cons y t => rw [okRest, show followB 46 = false by decide]; rfl
theorem okRest_last : okRest [46] = false := by decide
theorem okRest_other {x : Int} {t : List Int} (h : followB x = false) (h2 : x ≠ 46) : okRest (x :: t) = false := by
  rw [okRest, h, show (x == 46) = false from beq_eq_false_iff_ne.2 h2]; rfl

theorem follow_dot : followB 46 = false := by decide

/-- the text goes on to its end just if all that follows is such -/
theorem tailF_whole (l : List UInt8) : ∀ (k i e : Nat), l.length - i ≤ k → i ≤ l.length → e ≤ i → (tailF l i e = l.length ↔ ∃ sc, scalF l i = some sc ∧ (sc = [] → e = l.length) ∧ okRest sc = true)
  | k, i, e, hk, hi, he => by
    obtain ⟨v, n, hq⟩ : ∃ v n, nextAt l (i : Int) = (v, n) := ⟨_, _, rfl⟩
    by_cases hend : i = l.length
    · have h0 : n = 0 := by
        have := nextAt_out (l := l) (i := (i : Int)) (.inr (by omega))
        rw [hq] at this
        exact (Prod.mk.inj this).2
      rw [tailF_stop hq (.inl h0), scalF_end (by omega)]
      constructor
      · intro h; exact ⟨[], rfl, fun _ => h, rfl⟩
      · rintro ⟨sc, h1, h2, _⟩
        cases h1
        exact h2 rfl
    have hlt : i < l.length := by omega
    by_cases hn : n = 0
    · subst hn
      rw [tailF_stop hq (.inl rfl), scalF_none hlt hq]
      constructor
      · intro h; omega
      · rintro ⟨sc, h1, _⟩; cases h1
    have hb := nextAt_bound hq hn
    have hk1 : 1 ≤ k := by omega
    obtain ⟨k, rfl⟩ : ∃ k', k = k' + 1 := ⟨k - 1, by omega⟩
    rw [scalF_go hlt hq hn]
    by_cases hv : v = 46
    · subst hv
      rw [tailF_go hq (by rintro (h | h); exact hn h; exact h.1 rfl), if_pos rfl, tailF_whole l k (i + n) e (by omega) (by omega) (by omega)]
      constructor
      · rintro ⟨sc, h1, h2, h3⟩
        have hne : sc ≠ [] := fun h => by have := h2 h; omega
        exact ⟨46 :: sc, by rw [h1]; rfl, (fun h => by cases h), by rw [okRest_dot hne]; exact h3⟩
      · rintro ⟨sc, h1, h2, h3⟩
        cases hs : scalF l (i + n) with
        | none => rw [hs] at h1; cases h1
        | some sc' =>
          rw [hs] at h1
          cases h1
          cases sc' with
          | nil => exact absurd h3 (by decide)
          | cons y t => exact ⟨y :: t, rfl, (fun h => by cases h), by rw [okRest_dot (by simp)] at h3; exact h3⟩
    cases hf : followB v with
    | false =>
      rw [tailF_stop hq (.inr ⟨hv, hf⟩)]
      constructor
      · intro h; omega
      · rintro ⟨sc, h1, h2, h3⟩
        cases hs : scalF l (i + n) with
        | none => rw [hs] at h1; cases h1
        | some sc' =>
          rw [hs] at h1
          cases h1
          rw [okRest_other hf hv] at h3
          cases h3
    | true =>
      rw [tailF_go hq (by rw [hf]; rintro (h | h); exact hn h; cases h.2), if_neg hv, tailF_whole l k (i + n) (i + n) (by omega) (by omega) (Nat.le_refl _)]
      constructor
      · rintro ⟨sc, h1, h2, h3⟩
        exact ⟨v :: sc, by rw [h1]; rfl, (fun h => by cases h), by rw [okRest_follow hf]; exact h3⟩
      · rintro ⟨sc, h1, h2, h3⟩
        cases hs : scalF l (i + n) with
        | none => rw [hs] at h1; cases h1
        | some sc' =>
          rw [hs] at h1
          cases h1
          rw [okRest_follow hf] at h3
          refine ⟨sc', rfl, fun h => ?_, h3⟩
          subst h
          by_cases hx : l.length ≤ i + n
          · omega
          · exfalso
            obtain ⟨v2, n2, hq2⟩ : ∃ v m, nextAt l ((i + n : Nat) : Int) = (v, m) := ⟨_, _, rfl⟩
            by_cases hn2 : n2 = 0
            · subst hn2; rw [scalF_none (by omega) hq2] at hs; cases hs
            · rw [scalF_go (by omega) hq2 hn2] at hs
              cases h4 : scalF l (i + n + n2) with
              | none => rw [h4] at hs; cases hs
              | some t => rw [h4] at hs; cases hs

/-- the reference's verdict: its first scalar such a one, the others in shape -/
def wholeR (first : Int → Bool) (l : List UInt8) : Bool := match scalF l 0 with
  | some (v :: t) => first v && okRest t
  | _ => false
theorem run_whole (first : Int → Bool) (l : List UInt8) : (decide (runF first l 0 ≠ 0 ∧ runF first l 0 = l.length)) = wholeR first l := by
  obtain ⟨v, n, hq⟩ : ∃ v n, nextAt l ((0 : Nat) : Int) = (v, n) := ⟨_, _, rfl⟩
  have hq' : nextAt l 0 = (v, n) := hq
  unfold wholeR
  by_cases hl : l.length = 0
  · have h0 : n = 0 := by
      have := nextAt_out (l := l) (i := 0) (.inr (by omega))
      rw [hq'] at this
      exact (Prod.mk.inj this).2
    rw [runF_no hq' (.inl h0), scalF_end (by omega)]
    simp
  by_cases hn : n = 0
  · subst hn
    rw [runF_no hq' (.inl rfl), scalF_none (by omega) hq]
    simp
  rw [scalF_go (by omega) hq hn]
  cases hf : first v with
  | false =>
    rw [runF_no hq' (.inr hf)]
    cases scalF l (0 + n) <;> simp [hf]
  | true =>
    have hb := nextAt_bound hq hn
    have hr := runF_go (first := first) (l := l) (a := 0) hq (by rw [hf]; rintro (h | h); exact hn h; cases h)
    rw [show ((0 : Nat) : Int) = 0 from rfl] at hr
    rw [hr, Nat.zero_add, Nat.sub_zero]
    have hw := tailF_whole l (l.length - n) n n (Nat.le_refl _) (by omega) (Nat.le_refl _)
    have hge := tailF_ge l _ n n (Nat.le_refl _) (Nat.le_refl _)
    rw [Bool.eq_iff_iff]
    simp only [decide_eq_true_eq]
    constructor
    · rintro ⟨_, h⟩
      obtain ⟨sc, h1, h2, h3⟩ := hw.1 h
      rw [h1]
      simp [hf, h3]
    · intro h
      refine ⟨by omega, hw.2 ?_⟩
      cases hs : scalF l n with
      | none => rw [hs] at h; cases h
      | some sc =>
        rw [hs] at h
        simp [hf] at h
        refine ⟨sc, rfl, fun he => ?_, h⟩
        subst he
        by_cases hx : l.length ≤ n
        · omega
        · exfalso
          obtain ⟨v2, n2, hq2⟩ : ∃ v m, nextAt l ((n : Nat) : Int) = (v, m) := ⟨_, _, rfl⟩
          by_cases hn2 : n2 = 0
          · subst hn2; rw [scalF_none (by omega) hq2] at hs; cases hs
          · rw [scalF_go (by omega) hq2 hn2] at hs
            cases h4 : scalF l (n + n2) with
            | none => rw [h4] at hs; cases hs
            | some t => rw [h4] at hs; cases hs
theorem base_follow (v : Int) (h : baseB v = true) : followB v = true ∧ v ≠ 46 := by
  refine ⟨by unfold followB startB; rw [h]; rfl, fun e => ?_⟩
  subst e
  revert h
  decide
theorem label_follow' (v : Int) (h : labelB v = true) : followB v = true ∧ v ≠ 46 := ⟨label_follow h, label_not_dot h⟩
end Go.Proofs.YtfjcbodkjjmagaaDoor
