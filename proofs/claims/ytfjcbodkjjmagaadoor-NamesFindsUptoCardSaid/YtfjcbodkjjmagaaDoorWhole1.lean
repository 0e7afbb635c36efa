/-
  A tag in lower case is a tag; Case is settled: plain. By an AI agent.
-/
import Derived.Test.YtfjcbodkjjmagaaDoorCase
namespace Go.Proofs.YtfjcbodkjjmagaaDoor
open Go.RowKit

theorem lowB_nat (c : UInt8) : (lowB c).toNat = if 65 ≤ c.toNat ∧ c.toNat ≤ 90 then c.toNat + 32 else c.toNat := by
  unfold lowB
  have := c.toNat_lt
  split
  · rw [UInt8.toNat_add]; simp; omega
  · rfl
theorem uppB_nat (c : UInt8) : (uppB c).toNat = if 97 ≤ c.toNat ∧ c.toNat ≤ 122 then c.toNat - 32 else c.toNat := by
  unfold uppB
  have := c.toNat_lt
  split
  · rw [UInt8.toNat_sub_of_le]
    · simp
    · rw [UInt8.le_iff_toNat_le]; simp; omega
  · rfl
theorem lowB_low (c : UInt8) : lowB (lowB c) = lowB c := by
  rw [← UInt8.toNat_inj, lowB_nat, lowB_nat]
  repeat' split
  all_goals omega
theorem lowL_low (l : List UInt8) : lowL (lowL l) = lowL l := by
  unfold lowL
  rw [List.map_map]
  exact List.map_congr_left (fun c _ => lowB_low c)
theorem low_upp (c : UInt8) : lowB (uppB c) = lowB c := by
  rw [← UInt8.toNat_inj, lowB_nat, lowB_nat, uppB_nat]
  repeat' split
  all_goals omega
theorem lowL_upp (l : List UInt8) : lowL (uppL l) = lowL l := by
  unfold lowL uppL
  rw [List.map_map]
  exact List.map_congr_left (fun c _ => low_upp c)
theorem lowL_append (a b : List UInt8) : lowL (a ++ b) = lowL a ++ lowL b := by simp [lowL]
theorem lowB_45 (c : UInt8) : lowB c = 45 ↔ c = 45 := by
  unfold lowB
  rw [← UInt8.toNat_inj, ← UInt8.toNat_inj]
  have := c.toNat_lt
  split
  · rw [UInt8.toNat_add]; simp; omega
  · rfl
theorem alphaC_low (c : UInt8) : alphaC (lowB c) = alphaC c := by
  rw [Bool.eq_iff_iff, alphaC_iff, alphaC_iff]
  unfold lowB
  have := c.toNat_lt
  split
  · rw [UInt8.toNat_add]; simp; omega
  · rfl
theorem digC_low (c : UInt8) : digC (lowB c) = digC c := by
  rw [Bool.eq_iff_iff, digC_iff, digC_iff]
  unfold lowB
  have := c.toNat_lt
  split
  · rw [UInt8.toNat_add]; simp; omega
  · rfl
theorem madeB_low (p : List UInt8) (lo hi : Nat) (pu : Bool) : madeB (lowL p) lo hi pu = madeB p lo hi pu := by
  unfold madeB
  rw [lowL_size]
  congr 1
  unfold lowL
  rw [List.all_map]
  congr 1
  funext c
  simp only [Function.comp_apply, alphaC_low, digC_low]
theorem privB_low (p : List UInt8) : privB (lowL p) = privB p := by rw [← lowL_x, ← lowL_x, lowL_low]
theorem headD_low (p : List UInt8) (h : p ≠ []) : digC ((lowL p).headD 0) = digC (p.headD 0) := by
  cases p with
  | nil => exact absurd rfl h
  | cons c r => exact digC_low c
theorem variantB_low (p : List UInt8) : variantB (lowL p) = variantB p := by
  unfold variantB
  rw [madeB_low, madeB_low]
  by_cases h : p = []
  · subst h; rfl
  · rw [headD_low p h]
theorem regionB_low (p : List UInt8) : regionB (lowL p) = regionB p := by
  unfold regionB
  rw [madeB_low, lowL_size]
  congr 2
  unfold lowL
  rw [List.all_map]
  congr 1
  funext c
  exact digC_low c
theorem partsOf_low : ∀ l : List UInt8, partsOf (lowL l) = (partsOf l).map lowL
  | [] => rfl
  | c :: r => by
    have ih := partsOf_low r
    have e : lowL (c :: r) = lowB c :: lowL r := rfl
    rw [e, partsOf, partsOf, ih]
    by_cases hc : c = 45
    · rw [if_pos hc, if_pos ((lowB_45 c).2 hc)]
      rfl
    · rw [if_neg hc, if_neg (fun h => hc ((lowB_45 c).1 h))]
      rcases partsOf r with _ | ⟨h, t⟩
      · rfl
      · rfl
theorem joinL_low : ∀ l : List (List UInt8), joinD (l.map lowL) = lowL (joinD l)
  | [] => rfl
  | [p] => rfl
  | p :: q :: r => by
    have ih := joinL_low (q :: r)
    simp only [List.map_cons, joinD] at ih ⊢
    rw [ih, lowL_append]
    rfl
def lowT (t : TagL) : TagL := ⟨lowL t.lang, lowL t.ext, lowL t.script, lowL t.region, t.vars.map lowL, t.exts.map lowL, lowL t.priv⟩
theorem ext3_low : ∀ (n : Nat) (ps : List (List UInt8)), ext3 n (ps.map lowL) = ((ext3 n ps).1.map lowL, (ext3 n ps).2.map lowL)
  | 0, ps => rfl
  | _ + 1, [] => rfl
  | n + 1, p :: r => by
    have ih := ext3_low n r
    rw [List.map_cons, ext3, ext3, madeB_low, ih]
    split <;> rfl
theorem langF_low (ps : List (List UInt8)) : langF (ps.map lowL) = (langF ps).map fun x => (lowL x.1, lowL x.2.1, x.2.2.map lowL) := by
  rcases ps with _ | ⟨p, r⟩
  · rfl
  · rw [List.map_cons, langF, langF, madeB_low, lowL_size, ext3_low]
    split
    · split
      · rfl
      · simp only [Option.map_some, joinL_low]
    · rfl
theorem oneF_low (f : List UInt8 → Bool) (hf : ∀ p, f (lowL p) = f p) (ps : List (List UInt8)) : oneF f (ps.map lowL) = (lowL (oneF f ps).1, (oneF f ps).2.map lowL) := by
  rcases ps with _ | ⟨p, r⟩
  · rfl
  · rw [List.map_cons, oneF, oneF, hf]
    split <;> rfl
theorem tagTail_low (lo : Nat) : ∀ ps, tagTail lo (ps.map lowL) = ((tagTail lo ps).1.map lowL, (tagTail lo ps).2.map lowL)
  | [] => rfl
  | p :: r => by
    have ih := tagTail_low lo r
    rw [List.map_cons, tagTail, tagTail, madeB_low, ih]
    split <;> rfl
theorem varsF_low : ∀ (ps seen : List (List UInt8)), varsF seen (ps.map lowL) = (varsF seen ps).map fun x => (x.1.map lowL, x.2.map lowL)
  | [], seen => rfl
  | p :: r, seen => by
    have ih := varsF_low r (seen ++ [lowL p])
    rw [List.map_cons, varsF, varsF, variantB_low, lowL_low, ih]
    split
    · split
      · rfl
      · rw [Option.map_map, Option.map_map]
        rfl
    · rfl
theorem extsF_low : ∀ (n : Nat) (ps seen : List (List UInt8)), ps.length ≤ n → extsF seen (ps.map lowL) = (extsF seen ps).map fun x => (x.1.map lowL, x.2.map lowL)
  | n, [], seen, _ => by rw [List.map_nil, extsF_no rfl]; rfl
  | 0, p :: r, seen, hn => by simp at hn
  | n + 1, p :: r, seen, hn => by
    have hl := tagTail_len 2 r
    have ih := extsF_low n (tagTail 2 r).2 (seen ++ [lowL p]) (by simp at hn; omega)
    have hc1 : (madeB (lowL p) 1 1 false && !privB (lowL p)) = (madeB p 1 1 false && !privB p) := by rw [madeB_low, privB_low]
    cases hm : (madeB p 1 1 false && !privB p) with
    | false =>
      rw [List.map_cons, extsF_no (show seesF (fun p => madeB p 1 1 false && !privB p) (p :: r) = false from hm), extsF_no (show seesF (fun p => madeB p 1 1 false && !privB p) (lowL p :: r.map lowL) = false from (show (madeB (lowL p) 1 1 false && !privB (lowL p)) = false from hc1.trans hm))]
      rfl
    | true =>
      rw [hm] at hc1
      have ht : (tagTail 2 (r.map lowL)).1 = [] ↔ (tagTail 2 r).1 = [] := by rw [tagTail_low]; simp
      by_cases hc : (tagTail 2 r).1 = [] ∨ seen.contains (lowL p) = true
      · rw [List.map_cons, extsF_bad hm hc, extsF_bad hc1 (by rw [lowL_low, ht]; exact hc)]
        rfl
      · rw [List.map_cons, extsF_step hm hc, extsF_step hc1 (by rw [lowL_low, ht]; exact hc), lowL_low, tagTail_low, ih, Option.map_map, Option.map_map]
        congr 1
        funext x
        simp only [Function.comp_apply, List.map_cons]
        rw [← List.map_cons, joinL_low]
theorem restF_low (lang ext : List UInt8) (ps : List (List UInt8)) : restF (lowL lang) (lowL ext) (ps.map lowL) = (restF lang ext ps).map fun x => (lowT x.1, x.2.map lowL) := by
  unfold restF
  simp only [oneF_low (fun p => madeB p 4 4 true) (fun p => madeB_low p 4 4 true), oneF_low regionB regionB_low, varsF_low]
  cases hv : varsF [] (oneF regionB (oneF (fun p => madeB p 4 4 true) ps).2).2 with
  | none => rfl
  | some v =>
    simp only [Option.map_some]
    have hm : (v.1.map lowL).map lowL = v.1.map lowL := by rw [List.map_map]; exact List.map_congr_left (fun x _ => lowL_low x)
    rw [hm, extsF_low v.2.length v.2 _ (Nat.le_refl _)]
    cases he : extsF (v.1.map lowL) v.2 with
    | none => rfl
    | some e => rfl
theorem seesPriv_low (ps : List (List UInt8)) : seesPriv (ps.map lowL) = seesPriv ps := by
  rcases ps with _ | ⟨p, r⟩
  · rfl
  · exact privB_low p
theorem frontF_low (ps : List (List UInt8)) : frontF (ps.map lowL) = (frontF ps).map fun x => (lowT x.1, x.2.map lowL) := by
  unfold frontF
  rw [seesPriv_low, langF_low]
  split
  · rfl
  · cases hl : langF ps with
    | none => rfl
    | some q =>
      obtain ⟨l, e, r⟩ := q
      exact restF_low l e r
theorem privR_low (r : List (List UInt8)) : privR (r.map lowL) = privR r := by
  unfold privR
  congr 1
  · cases r <;> rfl
  · rw [List.all_map]
    congr 1
    funext q
    exact madeB_low q 1 8 false
theorem finalF_low (o : Option (TagL × List (List UInt8))) : finalF (o.map fun x => (lowT x.1, x.2.map lowL)) = (finalF o).map lowT := by
  rcases o with _ | ⟨t, r⟩
  · rfl
  · rcases r with _ | ⟨p, r⟩
    · rfl
    · rw [Option.map_some, finalF_cons]
      show finalF (some (lowT t, lowL p :: r.map lowL)) = _
      rw [finalF_cons, privB_low, privR_low]
      split
      · split
        · rw [← List.map_cons, joinL_low]; rfl
        · rfl
      · rfl
/-- a text is a tag just if it is one in lower case -/
theorem tagF_low (s : List UInt8) : tagF (lowL s) = (tagF s).map lowT := by
  unfold tagF
  rw [partsOf_low, tagP_final, tagP_final, frontF_low, finalF_low]
theorem keepL_low (l : List (List UInt8)) : (keepL l).map lowL = keepL (l.map lowL) := by
  induction l with
  | nil => rfl
  | cons x r ih =>
    have e : (lowL x == []) = (x == []) := by cases x <;> rfl
    cases hx : (x == []) with
    | true => rw [keepL_no hx, List.map_cons, keepL_no (e.trans hx), ih]
    | false => rw [keepL_yes hx, List.map_cons, List.map_cons, keepL_yes (e.trans hx), ih]
theorem joinT_low (t : TagL) : joinT (lowT t) = lowL (joinT t) := by
  unfold joinT
  rw [← joinL_low]
  congr 1
  unfold partsT lowT
  simp only [List.map_append, keepL_low, List.map_cons, List.map_nil]
theorem lowT_case (t : TagL) : lowT (caseT t) = lowT t := by
  unfold lowT caseT
  simp only [lowL_append, lowL_upp]
  rw [← lowL_append, List.take_append_drop]
/-- what Case answers has the letters of the tag in lower case, and is its own Case -/
theorem caseF_low {s c : List UInt8} (h : caseF s = some c) : lowL c = lowL s := by
  unfold caseF at h
  cases ht : tagF (lowL s) with
  | none => rw [ht] at h; cases h
  | some t =>
    rw [ht] at h
    cases h
    rw [← joinT_low, lowT_case, joinT_low, tagF_join ht, lowL_low]
theorem caseF_again {s c : List UInt8} (h : caseF s = some c) : caseF c = some c := by
  have hl := caseF_low h
  unfold caseF at h ⊢
  rw [hl]
  exact h
end Go.Proofs.YtfjcbodkjjmagaaDoor
