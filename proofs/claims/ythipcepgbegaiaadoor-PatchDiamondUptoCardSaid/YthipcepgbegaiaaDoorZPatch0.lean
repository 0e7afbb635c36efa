/-
  What patches do to sets of quads: the plain words and laws. No program in sight. By an AI agent.
-/
import Derived.Test.YthipcepgbegaiaaDoorZTerm0
namespace Go.Proofs.YthipcepgbegaiaaDoor
set_option maxRecDepth 100000

def minusS (a b : List QuadL) : List QuadL := if riseB a && riseB b then mergeF true false false a b else []
def meetS (a b : List QuadL) : List QuadL := if riseB a && riseB b then mergeF false true false a b else []
def unionS (a b : List QuadL) : List QuadL := if riseB a && riseB b then mergeF true true true a b else []
section
variable {a b : List QuadL} (ha : Rise a) (hb : Rise b)
include ha hb
theorem both_rise : (riseB a && riseB b) = true := by rw [Bool.and_eq_true, riseB_iff, riseB_iff]; exact ⟨ha, hb⟩
theorem mem_minus (x : QuadL) : x ∈ minusS a b ↔ x ∈ a ∧ x ∉ b := by
  unfold minusS
  rw [both_rise ha hb, if_pos rfl, mergeF_mem _ _ _ _ a b (Nat.le_refl _) ha hb]
  simp
theorem mem_meet (x : QuadL) : x ∈ meetS a b ↔ x ∈ a ∧ x ∈ b := by
  unfold meetS
  rw [both_rise ha hb, if_pos rfl, mergeF_mem _ _ _ _ a b (Nat.le_refl _) ha hb]
  simp
theorem mem_union (x : QuadL) : x ∈ unionS a b ↔ x ∈ a ∨ x ∈ b := by
  unfold unionS
  rw [both_rise ha hb, if_pos rfl, mergeF_mem _ _ _ _ a b (Nat.le_refl _) ha hb]
  by_cases h1 : x ∈ a <;> by_cases h2 : x ∈ b <;> simp [h1, h2]
theorem minus_rise : Rise (minusS a b) := by
  unfold minusS
  rw [both_rise ha hb, if_pos rfl]
  exact mergeF_rise _ _ _ _ a b (Nat.le_refl _) ha hb
theorem union_rise : Rise (unionS a b) := by
  unfold unionS
  rw [both_rise ha hb, if_pos rfl]
  exact mergeF_rise _ _ _ _ a b (Nat.le_refl _) ha hb
theorem minus_len : (minusS a b).length ≤ a.length := by
  unfold minusS
  rw [both_rise ha hb, if_pos rfl, ← minus_merge ha hb, bothR_filter _ ha hb]
  exact List.length_filter_le _ _
end
theorem empty_of {l : List QuadL} (h : ∀ x, x ∉ l) : l = [] := List.eq_nil_iff_forall_not_mem.2 h
theorem Fine.rise {l : List QuadL} (h : Fine l) : Rise l := h.2.2
theorem Fine.minus {a b : List QuadL} (ha : Fine a) (hb : Fine b) : Fine (minusS a b) :=
  ⟨Nat.le_trans (minus_len ha.rise hb.rise) ha.1, fun q hq => ha.2.1 q ((mem_minus ha.rise hb.rise q).1 hq).1, minus_rise ha.rise hb.rise⟩
structure PatchL where
  minus : List QuadL
  plus : List QuadL
  deriving DecidableEq
def noPatch : PatchL := ⟨[], []⟩
/-- the first that is not 0 -/
def firstN (a b : Int) : Int := if a ≠ 0 then a else b
def checkN (p : PatchL) : Int := firstN (firstN (validF p.minus).2 (validF p.plus).2) (if meetS p.minus p.plus = [] then 0 else 230)
def diffN (a b : List QuadL) : PatchL × Int := if firstN (validF a).2 (validF b).2 ≠ 0 then (noPatch, firstN (validF a).2 (validF b).2) else (⟨minusS a b, minusS b a⟩, 0)
/-- a dataset behind a patch; must: it has to fit -/
def behindN (must : Bool) (l : List QuadL) (p : PatchL) : List QuadL × Int :=
  if firstN (validF l).2 (checkN p) ≠ 0 then ([], firstN (validF l).2 (checkN p))
  else if must = true ∧ ¬ (minusS p.minus l = [] ∧ meetS p.plus l = []) then ([], 230)
  else if 1048576 < (unionS (minusS l p.minus) p.plus).length then ([], 2) else (unionS (minusS l p.minus) p.plus, 0)
def composeN (p q : PatchL) : PatchL × Int :=
  if firstN (checkN p) (checkN q) ≠ 0 then (noPatch, firstN (checkN p) (checkN q))
  else if ¬ (meetS p.minus q.minus = [] ∧ meetS p.plus q.plus = []) then (noPatch, 230)
  else if 1048576 < (unionS (minusS p.minus q.plus) (minusS q.minus p.plus)).length ∨ 1048576 < (unionS (minusS p.plus q.minus) (minusS q.plus p.minus)).length then (noPatch, 2)
  else (⟨unionS (minusS p.minus q.plus) (minusS q.minus p.plus), unionS (minusS p.plus q.minus) (minusS q.plus p.minus)⟩, 0)
/-! what fits -/
def FineP (p : PatchL) : Prop := Fine p.minus ∧ Fine p.plus ∧ ∀ x, x ∈ p.minus → x ∉ p.plus
theorem firstN_zero {a b : Int} : firstN a b = 0 ↔ a = 0 ∧ b = 0 := by
  unfold firstN
  by_cases h : a = 0
  · simp [h]
  · simp [h]
theorem checkN_ok (p : PatchL) : checkN p = 0 ↔ FineP p := by
  unfold checkN FineP
  rw [firstN_zero, firstN_zero, validF_ok, validF_ok]
  constructor
  · rintro ⟨⟨h1, h2⟩, h3⟩
    refine ⟨h1, h2, fun x hx hy => ?_⟩
    by_cases h : meetS p.minus p.plus = []
    · have := (mem_meet h1.rise h2.rise x).2 ⟨hx, hy⟩
      rw [h] at this
      cases this
    · rw [if_neg h] at h3
      cases h3
  · rintro ⟨h1, h2, h3⟩
    refine ⟨⟨h1, h2⟩, ?_⟩
    rw [if_pos]
    exact empty_of fun x hx => h3 x ((mem_meet h1.rise h2.rise x).1 hx).1 ((mem_meet h1.rise h2.rise x).1 hx).2
theorem diffN_ok {a b : List QuadL} (ha : Fine a) (hb : Fine b) : diffN a b = (⟨minusS a b, minusS b a⟩, 0) := by
  unfold diffN
  rw [if_neg]
  intro h
  exact h (firstN_zero.2 ⟨(validF_ok a).2 ha, (validF_ok b).2 hb⟩)
theorem diff_fine {a b : List QuadL} (ha : Fine a) (hb : Fine b) : FineP ⟨minusS a b, minusS b a⟩ :=
  ⟨ha.minus hb, hb.minus ha, fun x hx hy => ((mem_minus ha.rise hb.rise x).1 hx).2 ((mem_minus hb.rise ha.rise x).1 hy).1⟩
theorem behindN_ok {must : Bool} {l : List QuadL} {p : PatchL} (hl : Fine l) (hp : FineP p) (hm : must = true → (∀ x ∈ p.minus, x ∈ l) ∧ ∀ x ∈ p.plus, x ∉ l)
    (hn : (unionS (minusS l p.minus) p.plus).length ≤ 1048576) : behindN must l p = (unionS (minusS l p.minus) p.plus, 0) := by
  unfold behindN
  rw [if_neg, if_neg, if_neg (by omega)]
  · rintro ⟨h, h2⟩
    obtain ⟨h3, h4⟩ := hm h
    refine h2 ⟨empty_of fun x hx => ?_, empty_of fun x hx => ?_⟩
    · rw [mem_minus hp.1.rise hl.rise] at hx; exact hx.2 (h3 x hx.1)
    · rw [mem_meet hp.2.1.rise hl.rise] at hx; exact h4 x hx.1 hx.2
  · intro h
    exact h (firstN_zero.2 ⟨(validF_ok l).2 hl, (checkN_ok p).2 hp⟩)
/-- what Diff answers makes the second of the first -/
theorem apply_diff {a b : List QuadL} (ha : Fine a) (hb : Fine b) : behindN true a ⟨minusS a b, minusS b a⟩ = (b, 0) := by
  have hr1 := minus_rise ha.rise hb.rise
  have hr2 := minus_rise hb.rise ha.rise
  have e : unionS (minusS a (minusS a b)) (minusS b a) = b := by
    refine rise_ext (union_rise (minus_rise ha.rise hr1) hr2) hb.rise fun x => ?_
    rw [mem_union (minus_rise ha.rise hr1) hr2, mem_minus ha.rise hr1, mem_minus ha.rise hb.rise, mem_minus hb.rise ha.rise]
    by_cases h1 : x ∈ a <;> by_cases h2 : x ∈ b <;> simp [h1, h2]
  rw [behindN_ok ha (diff_fine ha hb) (fun _ => ⟨fun x hx => ((mem_minus ha.rise hb.rise x).1 hx).1, fun x hx => ((mem_minus hb.rise ha.rise x).1 hx).2⟩) (by simp only [e]; exact hb.1)]
  simp only [e]
/-- one behind the other -/
theorem compose_diff {a b c : List QuadL} (ha : Fine a) (hb : Fine b) (hc : Fine c) : composeN ⟨minusS a b, minusS b a⟩ ⟨minusS b c, minusS c b⟩ = (⟨minusS a c, minusS c a⟩, 0) := by
  have rab := minus_rise ha.rise hb.rise
  have rba := minus_rise hb.rise ha.rise
  have rbc := minus_rise hb.rise hc.rise
  have rcb := minus_rise hc.rise hb.rise
  have e1 : unionS (minusS (minusS a b) (minusS c b)) (minusS (minusS b c) (minusS b a)) = minusS a c := by
    refine rise_ext (union_rise (minus_rise rab rcb) (minus_rise rbc rba)) (minus_rise ha.rise hc.rise) fun x => ?_
    rw [mem_union (minus_rise rab rcb) (minus_rise rbc rba), mem_minus rab rcb, mem_minus rbc rba, mem_minus ha.rise hb.rise, mem_minus hc.rise hb.rise, mem_minus hb.rise hc.rise, mem_minus hb.rise ha.rise, mem_minus ha.rise hc.rise]
    by_cases h1 : x ∈ a <;> by_cases h2 : x ∈ b <;> by_cases h3 : x ∈ c <;> simp [h1, h2, h3]
  have e2 : unionS (minusS (minusS b a) (minusS b c)) (minusS (minusS c b) (minusS a b)) = minusS c a := by
    refine rise_ext (union_rise (minus_rise rba rbc) (minus_rise rcb rab)) (minus_rise hc.rise ha.rise) fun x => ?_
    rw [mem_union (minus_rise rba rbc) (minus_rise rcb rab), mem_minus rba rbc, mem_minus rcb rab, mem_minus hb.rise ha.rise, mem_minus hb.rise hc.rise, mem_minus hc.rise hb.rise, mem_minus ha.rise hb.rise, mem_minus hc.rise ha.rise]
    by_cases h1 : x ∈ a <;> by_cases h2 : x ∈ b <;> by_cases h3 : x ∈ c <;> simp [h1, h2, h3]
  unfold composeN
  simp only [e1, e2]
  rw [if_neg, if_neg, if_neg]
  · have h1 := (ha.minus hc).1
    have h2 := (hc.minus ha).1
    omega
  · intro h
    refine h ⟨empty_of fun x hx => ?_, empty_of fun x hx => ?_⟩
    · rw [mem_meet rab rbc, mem_minus ha.rise hb.rise, mem_minus hb.rise hc.rise] at hx; exact hx.1.2 hx.2.1
    · rw [mem_meet rba rcb, mem_minus hb.rise ha.rise, mem_minus hc.rise hb.rise] at hx; exact hx.2.2 hx.1.1
  · intro h
    exact h (firstN_zero.2 ⟨(checkN_ok _).2 (diff_fine ha hb), (checkN_ok _).2 (diff_fine hb hc)⟩)
section
variable {a b c : List QuadL} (ha : Fine a) (hb : Fine b) (hc : Fine c)
include ha hb hc
end
end Go.Proofs.YthipcepgbegaiaaDoor

/-
  The examples of tesseralaw23.awake, plain. By an AI agent.
-/
namespace Go.Proofs.YthipcepgbegaiaaDoor
open Go.RowKit
set_option maxRecDepth 100000

/-! the examples are well formed -/
/-- a quad of the examples -/
def exQ (s : List UInt8) : QuadL := ⟨⟨1, s, [], []⟩, ⟨1, s, [], []⟩, ⟨1, s, [], []⟩, noTerm⟩
theorem utf_ex (c : UInt8) (h : c = 97 ∨ c = 98 ∨ c = 99) : utfF [c, 58] 0 = -1 := by
  have h0 : nextAt [c, 58] ((0 : Nat) : Int) = ((c.toNat : Int), 1) := by rcases h with rfl | rfl | rfl <;> decide
  have h1 : nextAt [c, 58] ((1 : Nat) : Int) = (58, 1) := by rcases h with rfl | rfl | rfl <;> decide
  rw [utfF_go (by simp) h0 (by decide), utfF_go (by simp) h1 (by decide), utfF_end (by simp)]
theorem iri_ex (c : UInt8) (h : c = 97 ∨ c = 98 ∨ c = 99) : iriN [c, 58] = 0 := by
  have hr : refN [c, 58] = 0 := by
    unfold refN
    rw [utf_ex c h]
    rcases h with rfl | rfl | rfl <;> decide
  unfold iriN
  rw [hr]
  rcases h with rfl | rfl | rfl <;> decide
theorem quad_ex (c : UInt8) (h : c = 97 ∨ c = 98 ∨ c = 99) : quadN (exQ [c, 58]) = 0 := by
  have ht : termN ⟨1, [c, 58], [], []⟩ = 0 := by
    simp [termN, iri_ex c h]
  unfold quadN exQ
  simp only [ht]
  simp
theorem fine_ex (l : List QuadL) (h : ∀ q ∈ l, q = exQ [97, 58] ∨ q = exQ [98, 58] ∨ q = exQ [99, 58]) (hl : l.length ≤ 10) (hr : riseB l = true) : Fine l := by
  refine ⟨by omega, fun q hq => ?_, (riseB_iff l).1 hr⟩
  rcases h q hq with rfl | rfl | rfl
  · exact quad_ex 97 (.inl rfl)
  · exact quad_ex 98 (.inr (.inl rfl))
  · exact quad_ex 99 (.inr (.inr rfl))
def qa : QuadL := exQ [97, 58]
def qb : QuadL := exQ [98, 58]
def qc : QuadL := exQ [99, 58]
theorem cmp_ab : cmpQ qa qb = -1 := by decide
theorem cmp_bc : cmpQ qb qc = -1 := by decide
theorem fine_a : Fine [qa] := fine_ex _ (by simp [qa]) (by simp) rfl
theorem fine_b : Fine [qb] := fine_ex _ (by simp [qb]) (by simp) rfl
theorem fine_c : Fine [qc] := fine_ex _ (by simp [qc]) (by simp) rfl
theorem fine_ab : Fine [qa, qb] := fine_ex _ (by simp [qa, qb]) (by simp) (by simp [riseB, cmp_ab])
theorem fine_bc : Fine [qb, qc] := fine_ex _ (by simp [qb, qc]) (by simp) (by simp [riseB, cmp_bc])
theorem ne_ab : qa ≠ qb := by decide
theorem ne_bc : qb ≠ qc := by decide
theorem ne_ac : qa ≠ qc := by decide
theorem ex_diff : diffN [qa, qb] [qb, qc] = (⟨[qa], [qc]⟩, 0) := by
  rw [diffN_ok fine_ab fine_bc]
  have e1 : minusS [qa, qb] [qb, qc] = [qa] := rise_ext (minus_rise fine_ab.rise fine_bc.rise) fine_a.rise fun x => by
    rw [mem_minus fine_ab.rise fine_bc.rise]
    simp only [List.mem_cons, List.not_mem_nil, or_false]
    constructor
    · rintro ⟨h | h, h2⟩
      · exact h
      · exact absurd (.inl h) h2
    · rintro rfl
      exact ⟨.inl rfl, fun h => h.elim ne_ab ne_ac⟩
  have e2 : minusS [qb, qc] [qa, qb] = [qc] := rise_ext (minus_rise fine_bc.rise fine_ab.rise) fine_c.rise fun x => by
    rw [mem_minus fine_bc.rise fine_ab.rise]
    simp only [List.mem_cons, List.not_mem_nil, or_false]
    constructor
    · rintro ⟨h | h, h2⟩
      · exact absurd (.inr h) h2
      · exact h
    · rintro rfl
      exact ⟨.inr rfl, fun h => h.elim (fun e => ne_ac e.symm) (fun e => ne_bc e.symm)⟩
  rw [e1, e2]
theorem ex_compose : composeN ⟨[qa], [qb]⟩ ⟨[qb], [qc]⟩ = (⟨[qa], [qc]⟩, 0) := by
  have h1 : minusS [qa] [qb] = [qa] := rise_ext (minus_rise fine_a.rise fine_b.rise) fine_a.rise fun x => by
    rw [mem_minus fine_a.rise fine_b.rise]
    simp only [List.mem_cons, List.not_mem_nil, or_false]
    exact ⟨fun h => h.1, fun h => ⟨h, fun e => ne_ab (h ▸ e)⟩⟩
  have h2 : minusS [qb] [qa] = [qb] := rise_ext (minus_rise fine_b.rise fine_a.rise) fine_b.rise fun x => by
    rw [mem_minus fine_b.rise fine_a.rise]
    simp only [List.mem_cons, List.not_mem_nil, or_false]
    exact ⟨fun h => h.1, fun h => ⟨h, fun e => ne_ab (h ▸ e.symm)⟩⟩
  have e := compose_diff fine_a fine_b fine_c
  have h3 : minusS [qb] [qc] = [qb] := rise_ext (minus_rise fine_b.rise fine_c.rise) fine_b.rise fun x => by
    rw [mem_minus fine_b.rise fine_c.rise]
    simp only [List.mem_cons, List.not_mem_nil, or_false]
    exact ⟨fun h => h.1, fun h => ⟨h, fun e => ne_bc (h ▸ e)⟩⟩
  have h4 : minusS [qc] [qb] = [qc] := rise_ext (minus_rise fine_c.rise fine_b.rise) fine_c.rise fun x => by
    rw [mem_minus fine_c.rise fine_b.rise]
    simp only [List.mem_cons, List.not_mem_nil, or_false]
    exact ⟨fun h => h.1, fun h => ⟨h, fun e => ne_bc (h ▸ e.symm)⟩⟩
  have h5 : minusS [qa] [qc] = [qa] := rise_ext (minus_rise fine_a.rise fine_c.rise) fine_a.rise fun x => by
    rw [mem_minus fine_a.rise fine_c.rise]
    simp only [List.mem_cons, List.not_mem_nil, or_false]
    exact ⟨fun h => h.1, fun h => ⟨h, fun e => ne_ac (h ▸ e)⟩⟩
  have h6 : minusS [qc] [qa] = [qc] := rise_ext (minus_rise fine_c.rise fine_a.rise) fine_c.rise fun x => by
    rw [mem_minus fine_c.rise fine_a.rise]
    simp only [List.mem_cons, List.not_mem_nil, or_false]
    exact ⟨fun h => h.1, fun h => ⟨h, fun e => ne_ac (h ▸ e.symm)⟩⟩
  rw [h1, h2, h3, h4, h5, h6] at e
  exact e
end Go.Proofs.YthipcepgbegaiaaDoor
