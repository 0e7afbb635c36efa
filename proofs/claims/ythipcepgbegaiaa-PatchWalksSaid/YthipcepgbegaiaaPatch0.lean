/-
  What patches do to sets of quads: the plain words and laws. No program in sight. By an AI agent.
-/
import Derived.Test.YthipcepgbegaiaaTerm1
namespace Go.Proofs.Ythipcepgbegaiaa
set_option maxRecDepth 100000

def minusS (a b : List QuadL) : List QuadL := if riseB a && riseB b then mergeF true false false a b else []
def meetS (a b : List QuadL) : List QuadL := if riseB a && riseB b then mergeF false true false a b else []
def unionS (a b : List QuadL) : List QuadL := if riseB a && riseB b then mergeF true true true a b else []
/-- the reference's three -/
theorem minusS_ref (a b : List QuadL) : minusS a b = if riseB a && riseB b then bothR false a b else [] := by
  unfold minusS
  cases h : riseB a && riseB b with
  | false => rfl
  | true =>
    rw [Bool.and_eq_true, riseB_iff, riseB_iff] at h
    rw [minus_merge h.1 h.2]
theorem meetS_ref (a b : List QuadL) : meetS a b = if riseB a && riseB b then bothR true a b else [] := by
  unfold meetS
  cases h : riseB a && riseB b with
  | false => rfl
  | true =>
    rw [Bool.and_eq_true, riseB_iff, riseB_iff] at h
    rw [meet_merge h.1 h.2]
theorem unionS_ref (a b : List QuadL) : unionS a b = if riseB a && riseB b then joinR none a b else [] := by
  unfold unionS
  cases h : riseB a && riseB b with
  | false => rfl
  | true =>
    rw [Bool.and_eq_true, riseB_iff, riseB_iff] at h
    rw [join_merge h.1 h.2]
section
variable {a b : List QuadL} (ha : Rise a) (hb : Rise b)
include ha hb
theorem both_rise : (riseB a && riseB b) = true := by rw [Bool.and_eq_true, riseB_iff, riseB_iff]; exact ⟨ha, hb⟩
theorem mem_minus (x : QuadL) : x ∈ minusS a b ↔ x ∈ a ∧ x ∉ b := by
  unfold minusS
  rw [both_rise ha hb, if_pos rfl, mergeF_mem _ _ _ _ a b (Nat.le_refl _) ha hb]
  simp
theorem mem_meet (x : QuadL) : x ∈ meetS a b ↔ x ∈ a ∧ x ∈ b := by
  unfold meetS
  rw [both_rise ha hb, if_pos rfl, mergeF_mem _ _ _ _ a b (Nat.le_refl _) ha hb]
  simp
theorem mem_union (x : QuadL) : x ∈ unionS a b ↔ x ∈ a ∨ x ∈ b := by
  unfold unionS
  rw [both_rise ha hb, if_pos rfl, mergeF_mem _ _ _ _ a b (Nat.le_refl _) ha hb]
  by_cases h1 : x ∈ a <;> by_cases h2 : x ∈ b <;> simp [h1, h2]
theorem minus_rise : Rise (minusS a b) := by
  unfold minusS
  rw [both_rise ha hb, if_pos rfl]
  exact mergeF_rise _ _ _ _ a b (Nat.le_refl _) ha hb
theorem meet_rise : Rise (meetS a b) := by
  unfold meetS
  rw [both_rise ha hb, if_pos rfl]
  exact mergeF_rise _ _ _ _ a b (Nat.le_refl _) ha hb
theorem union_rise : Rise (unionS a b) := by
  unfold unionS
  rw [both_rise ha hb, if_pos rfl]
  exact mergeF_rise _ _ _ _ a b (Nat.le_refl _) ha hb
theorem minus_len : (minusS a b).length ≤ a.length := by
  unfold minusS
  rw [both_rise ha hb, if_pos rfl, ← minus_merge ha hb, bothR_filter _ ha hb]
  exact List.length_filter_le _ _
theorem meet_len : (meetS a b).length ≤ a.length := by
  unfold meetS
  rw [both_rise ha hb, if_pos rfl, ← meet_merge ha hb, bothR_filter _ ha hb]
  exact List.length_filter_le _ _
theorem union_len : (unionS a b).length ≤ a.length + b.length := by
  unfold unionS
  rw [both_rise ha hb, if_pos rfl]
  exact mergeF_len _ _ _ _ a b (Nat.le_refl _)
end
theorem rise_nil : Rise [] := List.Pairwise.nil
theorem minus_nil {a : List QuadL} (ha : Rise a) : minusS a [] = a := rise_ext (minus_rise ha rise_nil) ha (fun x => by rw [mem_minus ha rise_nil]; simp)
theorem empty_of {l : List QuadL} (h : ∀ x, x ∉ l) : l = [] := List.eq_nil_iff_forall_not_mem.2 h
theorem Fine.rise {l : List QuadL} (h : Fine l) : Rise l := h.2.2
theorem Fine.minus {a b : List QuadL} (ha : Fine a) (hb : Fine b) : Fine (minusS a b) :=
  ⟨Nat.le_trans (minus_len ha.rise hb.rise) ha.1, fun q hq => ha.2.1 q ((mem_minus ha.rise hb.rise q).1 hq).1, minus_rise ha.rise hb.rise⟩
theorem fine_nil : Fine [] := ⟨by simp, by simp, rise_nil⟩

structure PatchL where
  minus : List QuadL
  plus : List QuadL
  deriving DecidableEq
def noPatch : PatchL := ⟨[], []⟩
/-- the first that is not 0 -/
def firstN (a b : Int) : Int := if a ≠ 0 then a else b
def checkN (p : PatchL) : Int := firstN (firstN (validF p.minus).2 (validF p.plus).2) (if meetS p.minus p.plus = [] then 0 else 230)
def diffN (a b : List QuadL) : PatchL × Int := if firstN (validF a).2 (validF b).2 ≠ 0 then (noPatch, firstN (validF a).2 (validF b).2) else (⟨minusS a b, minusS b a⟩, 0)
/-- a dataset behind a patch; must: it has to fit -/
def behindN (must : Bool) (l : List QuadL) (p : PatchL) : List QuadL × Int :=
  if firstN (validF l).2 (checkN p) ≠ 0 then ([], firstN (validF l).2 (checkN p))
  else if must = true ∧ ¬ (minusS p.minus l = [] ∧ meetS p.plus l = []) then ([], 230)
  else if 1048576 < (unionS (minusS l p.minus) p.plus).length then ([], 2) else (unionS (minusS l p.minus) p.plus, 0)
def invertN (p : PatchL) : PatchL × Int := if checkN p ≠ 0 then (noPatch, checkN p) else (⟨p.plus, p.minus⟩, 0)
def composeN (p q : PatchL) : PatchL × Int :=
  if firstN (checkN p) (checkN q) ≠ 0 then (noPatch, firstN (checkN p) (checkN q))
  else if ¬ (meetS p.minus q.minus = [] ∧ meetS p.plus q.plus = []) then (noPatch, 230)
  else if 1048576 < (unionS (minusS p.minus q.plus) (minusS q.minus p.plus)).length ∨ 1048576 < (unionS (minusS p.plus q.minus) (minusS q.plus p.minus)).length then (noPatch, 2)
  else (⟨unionS (minusS p.minus q.plus) (minusS q.minus p.plus), unionS (minusS p.plus q.minus) (minusS q.plus p.minus)⟩, 0)
def overN (p q : PatchL) : PatchL × Int :=
  if firstN (checkN p) (checkN q) ≠ 0 then (noPatch, firstN (checkN p) (checkN q))
  else if ¬ (meetS p.minus q.plus = [] ∧ meetS p.plus q.minus = []) then (noPatch, 230)
  else (⟨minusS p.minus q.minus, minusS p.plus q.plus⟩, 0)

/-! what fits -/
def FineP (p : PatchL) : Prop := Fine p.minus ∧ Fine p.plus ∧ ∀ x, x ∈ p.minus → x ∉ p.plus
theorem firstN_zero {a b : Int} : firstN a b = 0 ↔ a = 0 ∧ b = 0 := by
  unfold firstN
  by_cases h : a = 0
  · simp [h]
  · simp [h]
theorem checkN_ok (p : PatchL) : checkN p = 0 ↔ FineP p := by
  unfold checkN FineP
  rw [firstN_zero, firstN_zero, validF_ok, validF_ok]
  constructor
  · rintro ⟨⟨h1, h2⟩, h3⟩
    refine ⟨h1, h2, fun x hx hy => ?_⟩
    by_cases h : meetS p.minus p.plus = []
    · have := (mem_meet h1.rise h2.rise x).2 ⟨hx, hy⟩
      rw [h] at this
      cases this
    · rw [if_neg h] at h3
      cases h3
  · rintro ⟨h1, h2, h3⟩
    refine ⟨⟨h1, h2⟩, ?_⟩
    rw [if_pos]
    exact empty_of fun x hx => h3 x ((mem_meet h1.rise h2.rise x).1 hx).1 ((mem_meet h1.rise h2.rise x).1 hx).2
theorem diffN_ok {a b : List QuadL} (ha : Fine a) (hb : Fine b) : diffN a b = (⟨minusS a b, minusS b a⟩, 0) := by
  unfold diffN
  rw [if_neg]
  intro h
  exact h (firstN_zero.2 ⟨(validF_ok a).2 ha, (validF_ok b).2 hb⟩)
theorem diff_fine {a b : List QuadL} (ha : Fine a) (hb : Fine b) : FineP ⟨minusS a b, minusS b a⟩ :=
  ⟨ha.minus hb, hb.minus ha, fun x hx hy => ((mem_minus ha.rise hb.rise x).1 hx).2 ((mem_minus hb.rise ha.rise x).1 hy).1⟩
theorem behindN_ok {must : Bool} {l : List QuadL} {p : PatchL} (hl : Fine l) (hp : FineP p) (hm : must = true → (∀ x ∈ p.minus, x ∈ l) ∧ ∀ x ∈ p.plus, x ∉ l)
    (hn : (unionS (minusS l p.minus) p.plus).length ≤ 1048576) : behindN must l p = (unionS (minusS l p.minus) p.plus, 0) := by
  unfold behindN
  rw [if_neg, if_neg, if_neg (by omega)]
  · rintro ⟨h, h2⟩
    obtain ⟨h3, h4⟩ := hm h
    refine h2 ⟨empty_of fun x hx => ?_, empty_of fun x hx => ?_⟩
    · rw [mem_minus hp.1.rise hl.rise] at hx; exact hx.2 (h3 x hx.1)
    · rw [mem_meet hp.2.1.rise hl.rise] at hx; exact h4 x hx.1 hx.2
  · intro h
    exact h (firstN_zero.2 ⟨(validF_ok l).2 hl, (checkN_ok p).2 hp⟩)
/-- what Diff answers makes the second of the first -/
theorem apply_diff {a b : List QuadL} (ha : Fine a) (hb : Fine b) : behindN true a ⟨minusS a b, minusS b a⟩ = (b, 0) := by
  have hr1 := minus_rise ha.rise hb.rise
  have hr2 := minus_rise hb.rise ha.rise
  have e : unionS (minusS a (minusS a b)) (minusS b a) = b := by
    refine rise_ext (union_rise (minus_rise ha.rise hr1) hr2) hb.rise fun x => ?_
    rw [mem_union (minus_rise ha.rise hr1) hr2, mem_minus ha.rise hr1, mem_minus ha.rise hb.rise, mem_minus hb.rise ha.rise]
    by_cases h1 : x ∈ a <;> by_cases h2 : x ∈ b <;> simp [h1, h2]
  rw [behindN_ok ha (diff_fine ha hb) (fun _ => ⟨fun x hx => ((mem_minus ha.rise hb.rise x).1 hx).1, fun x hx => ((mem_minus hb.rise ha.rise x).1 hx).2⟩) (by simp only [e]; exact hb.1)]
  simp only [e]
/-- one behind the other -/
theorem compose_diff {a b c : List QuadL} (ha : Fine a) (hb : Fine b) (hc : Fine c) : composeN ⟨minusS a b, minusS b a⟩ ⟨minusS b c, minusS c b⟩ = (⟨minusS a c, minusS c a⟩, 0) := by
  have rab := minus_rise ha.rise hb.rise
  have rba := minus_rise hb.rise ha.rise
  have rbc := minus_rise hb.rise hc.rise
  have rcb := minus_rise hc.rise hb.rise
  have e1 : unionS (minusS (minusS a b) (minusS c b)) (minusS (minusS b c) (minusS b a)) = minusS a c := by
    refine rise_ext (union_rise (minus_rise rab rcb) (minus_rise rbc rba)) (minus_rise ha.rise hc.rise) fun x => ?_
    rw [mem_union (minus_rise rab rcb) (minus_rise rbc rba), mem_minus rab rcb, mem_minus rbc rba, mem_minus ha.rise hb.rise, mem_minus hc.rise hb.rise, mem_minus hb.rise hc.rise, mem_minus hb.rise ha.rise, mem_minus ha.rise hc.rise]
    by_cases h1 : x ∈ a <;> by_cases h2 : x ∈ b <;> by_cases h3 : x ∈ c <;> simp [h1, h2, h3]
  have e2 : unionS (minusS (minusS b a) (minusS b c)) (minusS (minusS c b) (minusS a b)) = minusS c a := by
    refine rise_ext (union_rise (minus_rise rba rbc) (minus_rise rcb rab)) (minus_rise hc.rise ha.rise) fun x => ?_
    rw [mem_union (minus_rise rba rbc) (minus_rise rcb rab), mem_minus rba rbc, mem_minus rcb rab, mem_minus hb.rise ha.rise, mem_minus hb.rise hc.rise, mem_minus hc.rise hb.rise, mem_minus ha.rise hb.rise, mem_minus hc.rise ha.rise]
    by_cases h1 : x ∈ a <;> by_cases h2 : x ∈ b <;> by_cases h3 : x ∈ c <;> simp [h1, h2, h3]
  unfold composeN
  simp only [e1, e2]
  rw [if_neg, if_neg, if_neg]
  · have h1 := (ha.minus hc).1
    have h2 := (hc.minus ha).1
    omega
  · intro h
    refine h ⟨empty_of fun x hx => ?_, empty_of fun x hx => ?_⟩
    · rw [mem_meet rab rbc, mem_minus ha.rise hb.rise, mem_minus hb.rise hc.rise] at hx; exact hx.1.2 hx.2.1
    · rw [mem_meet rba rcb, mem_minus hb.rise ha.rise, mem_minus hc.rise hb.rise] at hx; exact hx.2.2 hx.1.1
  · intro h
    exact h (firstN_zero.2 ⟨(checkN_ok _).2 (diff_fine ha hb), (checkN_ok _).2 (diff_fine hb hc)⟩)
/-- undone -/
theorem invert_diff {a b : List QuadL} (ha : Fine a) (hb : Fine b) : invertN ⟨minusS a b, minusS b a⟩ = (⟨minusS b a, minusS a b⟩, 0) := by
  unfold invertN
  rw [if_neg (fun h => h ((checkN_ok _).2 (diff_fine ha hb)))]
/-- what is left of one patch behind another, both from one dataset -/
theorem over_diff {a b c : List QuadL} (ha : Fine a) (hb : Fine b) (hc : Fine c) :
    overN ⟨minusS a c, minusS c a⟩ ⟨minusS a b, minusS b a⟩ = (⟨minusS (minusS a c) (minusS a b), minusS (minusS c a) (minusS b a)⟩, 0) := by
  have rab := minus_rise ha.rise hb.rise
  have rba := minus_rise hb.rise ha.rise
  have rac := minus_rise ha.rise hc.rise
  have rca := minus_rise hc.rise ha.rise
  unfold overN
  rw [if_neg, if_neg]
  · intro h
    refine h ⟨empty_of fun x hx => ?_, empty_of fun x hx => ?_⟩
    · rw [mem_meet rac rba, mem_minus ha.rise hc.rise, mem_minus hb.rise ha.rise] at hx; exact hx.2.2 hx.1.1
    · rw [mem_meet rca rab, mem_minus hc.rise ha.rise, mem_minus ha.rise hb.rise] at hx; exact hx.1.2 hx.2.1
  · intro h
    exact h (firstN_zero.2 ⟨(checkN_ok _).2 (diff_fine ha hc), (checkN_ok _).2 (diff_fine ha hb)⟩)
/-- both ways lead to the same: what one has then -/
def diamondS (a b c : List QuadL) : List QuadL := unionS (minusS b (minusS (minusS a c) (minusS a b))) (minusS (minusS c a) (minusS b a))
section
variable {a b c : List QuadL} (ha : Fine a) (hb : Fine b) (hc : Fine c)
include ha hb hc
theorem diamond_mem (x : QuadL) : x ∈ diamondS a b c ↔ (x ∈ b ∧ ¬ (x ∈ a ∧ x ∉ c)) ∨ (x ∈ c ∧ x ∉ a ∧ x ∉ b) := by
  have rab := minus_rise ha.rise hb.rise
  have rba := minus_rise hb.rise ha.rise
  have rac := minus_rise ha.rise hc.rise
  have rca := minus_rise hc.rise ha.rise
  unfold diamondS
  rw [mem_union (minus_rise hb.rise (minus_rise rac rab)) (minus_rise rca rba), mem_minus hb.rise (minus_rise rac rab), mem_minus rac rab, mem_minus rca rba, mem_minus ha.rise hc.rise, mem_minus ha.rise hb.rise, mem_minus hc.rise ha.rise, mem_minus hb.rise ha.rise]
  by_cases h1 : x ∈ a <;> by_cases h2 : x ∈ b <;> by_cases h3 : x ∈ c <;> simp [h1, h2, h3]
theorem diamond_rise : Rise (diamondS a b c) :=
  union_rise (minus_rise hb.rise (minus_rise (minus_rise ha.rise hc.rise) (minus_rise ha.rise hb.rise))) (minus_rise (minus_rise hc.rise ha.rise) (minus_rise hb.rise ha.rise))
theorem diamond_apply (hn : b.length + c.length ≤ 1048576) : behindN true b ⟨minusS (minusS a c) (minusS a b), minusS (minusS c a) (minusS b a)⟩ = (diamondS a b c, 0) := by
  have rab := minus_rise ha.rise hb.rise
  have rba := minus_rise hb.rise ha.rise
  have rac := minus_rise ha.rise hc.rise
  have rca := minus_rise hc.rise ha.rise
  refine behindN_ok hb ⟨(ha.minus hc).minus (ha.minus hb), (hc.minus ha).minus (hb.minus ha), fun x hx hy => ?_⟩ (fun _ => ⟨fun x hx => ?_, fun x hx => ?_⟩) ?_
  · rw [mem_minus rac rab, mem_minus ha.rise hc.rise] at hx
    rw [mem_minus rca rba, mem_minus hc.rise ha.rise] at hy
    exact hx.1.2 hy.1.1
  · rw [mem_minus rac rab, mem_minus ha.rise hc.rise, mem_minus ha.rise hb.rise] at hx
    by_cases h : x ∈ b
    · exact h
    · exact absurd ⟨hx.1.1, h⟩ hx.2
  · rw [mem_minus rca rba, mem_minus hc.rise ha.rise, mem_minus hb.rise ha.rise] at hx
    intro h
    exact hx.2 ⟨h, hx.1.2⟩
  · have h1 := union_len (minus_rise hb.rise (minus_rise rac rab)) (minus_rise rca rba)
    have h2 := minus_len hb.rise (minus_rise rac rab)
    have h3 := minus_len rca rba
    have h4 := minus_len hc.rise ha.rise
    simp only
    omega
theorem diamond_out : meetS (diamondS a b c) (minusS a b) = [] ∧ meetS (diamondS a b c) (minusS a c) = [] := by
  have hd := diamond_rise ha hb hc
  constructor
  · refine empty_of fun x hx => ?_
    rw [mem_meet hd (minus_rise ha.rise hb.rise), diamond_mem ha hb hc, mem_minus ha.rise hb.rise] at hx
    by_cases h1 : x ∈ a <;> by_cases h2 : x ∈ b <;> by_cases h3 : x ∈ c <;> simp [h1, h2, h3] at hx
  · refine empty_of fun x hx => ?_
    rw [mem_meet hd (minus_rise ha.rise hc.rise), diamond_mem ha hb hc, mem_minus ha.rise hc.rise] at hx
    by_cases h1 : x ∈ a <;> by_cases h2 : x ∈ b <;> by_cases h3 : x ∈ c <;> simp [h1, h2, h3] at hx
theorem diamond_in : meetS (diamondS a b c) (minusS b a) = minusS b a ∧ meetS (diamondS a b c) (minusS c a) = minusS c a := by
  have hd := diamond_rise ha hb hc
  constructor
  · refine rise_ext (meet_rise hd (minus_rise hb.rise ha.rise)) (minus_rise hb.rise ha.rise) fun x => ?_
    rw [mem_meet hd (minus_rise hb.rise ha.rise), diamond_mem ha hb hc, mem_minus hb.rise ha.rise]
    by_cases h1 : x ∈ a <;> by_cases h2 : x ∈ b <;> by_cases h3 : x ∈ c <;> simp [h1, h2, h3]
  · refine rise_ext (meet_rise hd (minus_rise hc.rise ha.rise)) (minus_rise hc.rise ha.rise) fun x => ?_
    rw [mem_meet hd (minus_rise hc.rise ha.rise), diamond_mem ha hb hc, mem_minus hc.rise ha.rise]
    by_cases h1 : x ∈ a <;> by_cases h2 : x ∈ b <;> by_cases h3 : x ∈ c <;> simp [h1, h2, h3]
end
theorem diamond_swap {a b c : List QuadL} (ha : Fine a) (hb : Fine b) (hc : Fine c) : diamondS a b c = diamondS a c b := by
  refine rise_ext (diamond_rise ha hb hc) (diamond_rise ha hc hb) fun x => ?_
  rw [diamond_mem ha hb hc, diamond_mem ha hc hb]
  by_cases h1 : x ∈ a <;> by_cases h2 : x ∈ b <;> by_cases h3 : x ∈ c <;> simp [h1, h2, h3]
end Go.Proofs.Ythipcepgbegaiaa
