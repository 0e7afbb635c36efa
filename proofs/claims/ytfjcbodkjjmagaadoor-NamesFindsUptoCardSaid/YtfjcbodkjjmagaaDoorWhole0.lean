/-
  The parts of a tag joined are the tag: plain. By an AI agent.
-/
import Derived.Test.YtfjcbodkjjmagaaDoorRefTag0
namespace Go.Proofs.YtfjcbodkjjmagaaDoor
open Go.RowKit

theorem flatH_append (a b : List (List UInt8)) : flatH (a ++ b) = flatH a ++ flatH b := by simp [flatH]
theorem flatH_join : ∀ (e : List (List UInt8)) (p : List UInt8), flatH [joinD (p :: e)] = flatH (p :: e) := fun e p => by
  rw [joinD_flat]
  simp [flatH]
theorem flatH_cons (p : List UInt8) (r : List (List UInt8)) : flatH (p :: r) = 45 :: joinD (p :: r) := by
  rw [joinD_flat]
  simp [flatH]
theorem flatH_inj {a b : List (List UInt8)} (ha : a ≠ []) (hb : b ≠ []) (h : flatH a = flatH b) : joinD a = joinD b := by
  obtain ⟨x, xs, rfl⟩ := List.exists_cons_of_ne_nil ha
  obtain ⟨y, ys, rfl⟩ := List.exists_cons_of_ne_nil hb
  rw [flatH_cons, flatH_cons] at h
  exact List.cons.inj h |>.2
theorem keep_one {x : List UInt8} (h : x ≠ []) : keepL [x] = [x] := by
  rw [keepL_yes (by simpa using h), keepL_nil]
theorem ext3_flat : ∀ (n : Nat) (ps : List (List UInt8)), flatH ps = flatH (keepL [joinD (ext3 n ps).1]) ++ flatH (ext3 n ps).2 ∧ ps = (ext3 n ps).1 ++ (ext3 n ps).2 ∧ ∀ p ∈ (ext3 n ps).1, p ≠ []
  | 0, ps => ⟨by simp [ext3, joinD, keepL, flatH], by simp [ext3], by simp [ext3]⟩
  | _ + 1, [] => ⟨by simp [ext3, joinD, keepL, flatH], by simp [ext3], by simp [ext3]⟩
  | n + 1, p :: r => by
    obtain ⟨_, ih, ihn⟩ := ext3_flat n r
    cases h : madeB p 3 3 true with
    | false =>
      have e : ext3 (n + 1) (p :: r) = ([], p :: r) := by rw [ext3, if_neg (by rw [h]; simp)]
      rw [e]
      exact ⟨by simp [joinD, keepL, flatH], by simp, by simp⟩
    | true =>
      have e : ext3 (n + 1) (p :: r) = (p :: (ext3 n r).1, (ext3 n r).2) := by rw [ext3, if_pos h]
      have hp : p ≠ [] := fun hp => by have := (made_len h).1; rw [hp] at this; simp at this
      rw [e]
      refine ⟨?_, by simp [← ih], ?_⟩
      · have hj : joinD (p :: (ext3 n r).1) ≠ [] := by
          rw [joinD_flat]
          intro hx
          exact hp (List.append_eq_nil_iff.1 hx).1
        rw [keep_one hj, flatH_join, ← flatH_append]
        simp [← ih]
      · intro q hq
        rcases List.mem_cons.1 hq with rfl | hq
        · exact hp
        · exact ihn q hq
theorem langF_flat {ps : List (List UInt8)} {l e : List UInt8} {r : List (List UInt8)} (h : langF ps = some (l, e, r)) : flatH ps = flatH (keepL [l, e]) ++ flatH r ∧ l ≠ [] := by
  have hl := langF_ne h
  refine ⟨?_, hl⟩
  rcases ps with _ | ⟨p, q⟩
  · cases h
  · cases hm : madeB p 2 8 true with
    | false => rw [langF, if_neg (by rw [hm]; simp)] at h; cases h
    | true =>
      rw [langF_yes hm] at h
      split at h
      · cases h
        rw [keepL_yes (by simpa using hl), keepL_no (by rfl), keepL_nil]
        simp [flatH]
      · cases h
        have he := (ext3_flat 3 q).1
        rw [keepL_yes (by simpa using hl)]
        have : flatH (l :: q) = flatH [l] ++ flatH q := by simp [flatH]
        rw [this, he, ← List.append_assoc, ← flatH_append]
        rfl
theorem oneF_flat {f : List UInt8 → Bool} (hf : ∀ p, f p = true → p ≠ []) (ps : List (List UInt8)) : flatH ps = flatH (keepL [(oneF f ps).1]) ++ flatH (oneF f ps).2 := by
  rcases ps with _ | ⟨p, r⟩
  · simp [oneF, keepL, flatH]
  · cases h : f p with
    | true =>
      rw [oneF_yes h, keep_one (hf p h)]
      simp [flatH]
    | false =>
      rw [oneF_no (show seesF f (p :: r) = false from h)]
      simp [keepL, flatH]
theorem varsF_flat : ∀ (ps seen : List (List UInt8)) (v : List (List UInt8) × List (List UInt8)), varsF seen ps = some v → flatH ps = flatH v.1 ++ flatH v.2
  | [], seen, v, h => by rw [varsF] at h; cases h; simp [flatH]
  | p :: r, seen, v, h => by
    cases hm : variantB p with
    | false =>
      rw [varsF_no (show seesF variantB (p :: r) = false from hm)] at h
      cases h
      simp [flatH]
    | true =>
      cases hc : seen.contains (lowL p) with
      | true => rw [varsF_dup hm hc] at h; cases h
      | false =>
        rw [varsF_step hm hc] at h
        cases hv : varsF (seen ++ [lowL p]) r with
        | none => rw [hv] at h; cases h
        | some u =>
          rw [hv] at h
          cases h
          have ih := varsF_flat r _ u hv
          have e1 : flatH (p :: r) = flatH [p] ++ flatH r := by simp [flatH]
          have e2 : flatH (p :: u.1) = flatH [p] ++ flatH u.1 := by simp [flatH]
          rw [e1, ih, e2, List.append_assoc]
theorem tagTail_flatH (lo : Nat) : ∀ ps, flatH ps = flatH (tagTail lo ps).1 ++ flatH (tagTail lo ps).2
  | [] => by simp [tagTail, flatH]
  | p :: r => by
    cases hm : madeB p lo 8 false with
    | true =>
      rw [tagTail_yes hm]
      have ih := tagTail_flatH lo r
      have e1 : flatH (p :: r) = flatH [p] ++ flatH r := by simp [flatH]
      have e2 : flatH (p :: (tagTail lo r).1) = flatH [p] ++ flatH (tagTail lo r).1 := by simp [flatH]
      rw [e1, ih, e2, List.append_assoc]
    | false => rw [tagTail_no hm]; simp [flatH]
theorem extsF_flat : ∀ (n : Nat) (ps seen : List (List UInt8)) (v : List (List UInt8) × List (List UInt8)), ps.length ≤ n → extsF seen ps = some v → flatH ps = flatH v.1 ++ flatH v.2
  | n, [], seen, v, _, h => by rw [extsF_no rfl] at h; cases h; simp [flatH]
  | 0, p :: r, seen, v, hn, h => by simp at hn
  | n + 1, p :: r, seen, v, hn, h => by
    cases hm : (madeB p 1 1 false && !privB p) with
    | false =>
      rw [extsF_no (show seesF (fun p => madeB p 1 1 false && !privB p) (p :: r) = false from hm)] at h
      cases h
      simp [flatH]
    | true =>
      by_cases hc : (tagTail 2 r).1 = [] ∨ seen.contains (lowL p) = true
      · rw [extsF_bad hm hc] at h; cases h
      · rw [extsF_step hm hc] at h
        have hl := tagTail_len 2 r
        cases hv : extsF (seen ++ [lowL p]) (tagTail 2 r).2 with
        | none => rw [hv] at h; cases h
        | some u =>
          rw [hv] at h
          cases h
          have ih := extsF_flat n _ _ u (by simp at hn; omega) hv
          have e1 : flatH (p :: r) = flatH [p] ++ flatH r := by simp [flatH]
          have e2 : flatH (joinD (p :: (tagTail 2 r).1) :: u.1) = flatH [joinD (p :: (tagTail 2 r).1)] ++ flatH u.1 := by simp [flatH]
          have e3 : flatH (p :: (tagTail 2 r).1) = flatH [p] ++ flatH (tagTail 2 r).1 := by simp [flatH]
          rw [e1, tagTail_flatH 2 r, ih, e2, flatH_join, e3]
          simp only [List.append_assoc]
theorem regionB_ne {p : List UInt8} (h : regionB p = true) : p ≠ [] := by
  rintro rfl
  revert h
  decide
theorem restF_flat {lang ext : List UInt8} {ps r : List (List UInt8)} {t : TagL} (h : restF lang ext ps = some (t, r)) : flatH (keepL [lang, ext]) ++ flatH ps = flatH (partsT t) ++ flatH r ∧ t.priv = [] ∧ t.lang = lang := by
  unfold restF at h
  have h1 := oneF_flat (f := fun p => madeB p 4 4 true) (fun p hp he => by have := (made_len hp).1; rw [he] at this; simp at this) ps
  have h2 := oneF_flat (f := regionB) (fun p hp => regionB_ne hp) (oneF (fun p => madeB p 4 4 true) ps).2
  simp only at h
  generalize (oneF (fun p => madeB p 4 4 true) ps) = a at *
  generalize oneF regionB a.2 = c at *
  cases hv : varsF [] c.2 with
  | none => rw [hv] at h; cases h
  | some v =>
    rw [hv] at h
    have h3 := varsF_flat _ _ _ hv
    simp only at h
    cases he : extsF (v.1.map lowL) v.2 with
    | none => rw [he] at h; cases h
    | some e =>
      rw [he] at h
      have h4 := extsF_flat _ _ _ _ (Nat.le_refl _) he
      cases h
      refine ⟨?_, rfl, rfl⟩
      have hk : keepL [lang, ext, a.1, c.1] = keepL [lang, ext] ++ keepL [a.1] ++ keepL [c.1] := by rw [← keepL_append, ← keepL_append]; rfl
      have hz : keepL [([] : List UInt8)] = [] := rfl
      unfold partsT
      simp only [hk, hz, flatH_append, h1, h2, h3, h4, List.append_assoc, List.append_nil]
theorem tagP_flat {ps : List (List UInt8)} {t : TagL} (h : tagP ps = some t) : flatH ps = flatH (partsT t) := by
  rw [tagP_final] at h
  have hfront : ∀ t r, frontF ps = some (t, r) → flatH ps = flatH (partsT t) ++ flatH r ∧ t.priv = [] := by
    intro t r hf
    unfold frontF at hf
    split at hf
    · cases hf
      exact ⟨by simp [partsT, noTag, keepL, flatH], rfl⟩
    · cases hl : langF ps with
      | none => rw [hl] at hf; cases hf
      | some q =>
        obtain ⟨l, e, r'⟩ := q
        rw [hl] at hf
        obtain ⟨h1, h2, _⟩ := restF_flat hf
        exact ⟨by rw [(langF_flat hl).1, h1], h2⟩
  cases hf : frontF ps with
  | none => rw [hf] at h; cases h
  | some q =>
    obtain ⟨t0, r⟩ := q
    obtain ⟨h1, h2⟩ := hfront t0 r hf
    rw [hf] at h
    rcases r with _ | ⟨p, r⟩
    · cases h
      rw [h1]
      simp [flatH]
    · rw [finalF_cons] at h
      split at h
      · next hp =>
        split at h
        · cases h
          have hj : joinD (p :: r) ≠ [] := by
            rw [joinD_flat]
            intro hx
            have := privB_len hp
            rw [(List.append_eq_nil_iff.1 hx).1] at this
            simp at this
          have e1 : partsT t0 = keepL [t0.lang, t0.ext, t0.script, t0.region] ++ t0.vars ++ t0.exts := by
            unfold partsT
            rw [h2]
            simp [keepL]
          rw [h1, e1]
          unfold partsT
          simp only [flatH_append, keep_one hj, flatH_join]
        · cases h
      · cases h
/-- a tag's parts joined are the tag -/
theorem tagF_join {s : List UInt8} {t : TagL} (h : tagF s = some t) : joinT t = s := by
  have hf := tagP_flat h
  unfold joinT
  rw [← joinD_partsOf s]
  refine (flatH_inj (partsOf_ne s) ?_ hf).symm
  intro hn
  rw [hn] at hf
  obtain ⟨x, xs, hx⟩ := List.exists_cons_of_ne_nil (partsOf_ne s)
  rw [hx, flatH_cons] at hf
  cases hf
end Go.Proofs.YtfjcbodkjjmagaaDoor
