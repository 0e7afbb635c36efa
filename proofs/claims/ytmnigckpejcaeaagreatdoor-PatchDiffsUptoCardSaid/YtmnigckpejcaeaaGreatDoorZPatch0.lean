/-
  What patches do to sets of quads: the plain words and laws. No program in sight. By an AI agent.
-/
import Derived.Test.YtmnigckpejcaeaaGreatDoorZTerm0
import Derived.Test.YtmnigckpejcaeaaGreatDoorZSort0
import Derived.Test.YtmnigckpejcaeaaGreatDoorZEscBack0
import Derived.Test.YtmnigckpejcaeaaGreatDoorZGRef2
import Derived.Test.YtmnigckpejcaeaaGreatDoorZLower
import Derived.Deep.RegionLaw
import Derived.Deep.RegionHeld3
import Derived.Test.YtmnigckpejcaeaaGreatDoorZTagCells
import Derived.Deep.CutBlock
import Derived.Outline
import Derived.Test.YtmnigckpejcaeaaGreatDoorShelf
import Derived.Test.YtmnigckpejcaeaaGreatDoorZGPlain
import Derived.Test.YtmnigckpejcaeaaGreatDoorProg
import Derived.Deep.QuietTactic
import Derived.BigQuiet
namespace Go.Proofs.YtmnigckpejcaeaaGreatDoor
set_option maxRecDepth 100000
def minusS (a b : List QuadL) : List QuadL := if riseB a && riseB b then mergeF true false false a b else []
def meetS (a b : List QuadL) : List QuadL := if riseB a && riseB b then mergeF false true false a b else []
def unionS (a b : List QuadL) : List QuadL := if riseB a && riseB b then mergeF true true true a b else []
section
variable {a b : List QuadL} (ha : Rise a) (hb : Rise b)
include ha hb
theorem both_rise : (riseB a && riseB b) = true := by rw [Bool.and_eq_true, riseB_iff, riseB_iff]; exact ⟨ha, hb⟩
theorem mem_minus (x : QuadL) : x ∈ minusS a b ↔ x ∈ a /\ x ∉ b := by
 unfold minusS
 rw [both_rise ha hb, if_pos rfl, mergeF_mem _ _ _ _ a b (Nat.le_refl _) ha hb]
 simp
theorem mem_meet (x : QuadL) : x ∈ meetS a b ↔ x ∈ a /\ x ∈ b := by
 unfold meetS
 rw [both_rise ha hb, if_pos rfl, mergeF_mem _ _ _ _ a b (Nat.le_refl _) ha hb]
 simp
theorem mem_union (x : QuadL) : x ∈ unionS a b ↔ x ∈ a \/ x ∈ b := by
 unfold unionS
 rw [both_rise ha hb, if_pos rfl, mergeF_mem _ _ _ _ a b (Nat.le_refl _) ha hb]
 by_cases h1 : x ∈ a <;> by_cases h2 : x ∈ b <;> simp [h1, h2]
theorem minus_rise : Rise (minusS a b) := by
 unfold minusS
 rw [both_rise ha hb, if_pos rfl]
 exact mergeF_rise _ _ _ _ a b (Nat.le_refl _) ha hb
theorem union_rise : Rise (unionS a b) := by
 unfold unionS
 rw [both_rise ha hb, if_pos rfl]
 exact mergeF_rise _ _ _ _ a b (Nat.le_refl _) ha hb
theorem minus_len : (minusS a b).length <= a.length := by
 unfold minusS
 rw [both_rise ha hb, if_pos rfl, <- minus_merge ha hb, bothR_filter _ ha hb]
 exact List.length_filter_le _ _
end
theorem rise_nil : Rise [] := List.Pairwise.nil
theorem minus_nil {a : List QuadL} (ha : Rise a) : minusS a [] = a := rise_ext (minus_rise ha rise_nil) ha (fun x => by rw [mem_minus ha rise_nil]; simp)
theorem empty_of {l : List QuadL} (h : ∀ x, x ∉ l) : l = [] := List.eq_nil_iff_forall_not_mem.2 h
theorem Fine.rise {l : List QuadL} (h : Fine l) : Rise l := h.2.2
theorem Fine.minus {a b : List QuadL} (ha : Fine a) (hb : Fine b) : Fine (minusS a b) :=
 ⟨Nat.le_trans (minus_len ha.rise hb.rise) ha.1, fun q hq => ha.2.1 q ((mem_minus ha.rise hb.rise q).1 hq).1, minus_rise ha.rise hb.rise⟩
structure PatchL where
 minus : List QuadL
 plus : List QuadL
 deriving DecidableEq
def noPatch : PatchL := ⟨[], []⟩
def firstN (a b : Int) : Int := if a ≠ 0 then a else b
def checkN (p : PatchL) : Int := firstN (firstN (validF p.minus).2 (validF p.plus).2) (if meetS p.minus p.plus = [] then 0 else 230)
def diffN (a b : List QuadL) : PatchL × Int := if firstN (validF a).2 (validF b).2 ≠ 0 then (noPatch, firstN (validF a).2 (validF b).2) else (⟨minusS a b, minusS b a⟩, 0)
def behindN (must : Bool) (l : List QuadL) (p : PatchL) : List QuadL × Int :=
 if firstN (validF l).2 (checkN p) ≠ 0 then ([], firstN (validF l).2 (checkN p))
 else if must = true /\ ¬ (minusS p.minus l = [] /\ meetS p.plus l = []) then ([], 230)
 else if 1048576 < (unionS (minusS l p.minus) p.plus).length then ([], 2) else (unionS (minusS l p.minus) p.plus, 0)
def invertN (p : PatchL) : PatchL × Int := if checkN p ≠ 0 then (noPatch, checkN p) else (⟨p.plus, p.minus⟩, 0)
def composeN (p q : PatchL) : PatchL × Int :=
 if firstN (checkN p) (checkN q) ≠ 0 then (noPatch, firstN (checkN p) (checkN q))
 else if ¬ (meetS p.minus q.minus = [] /\ meetS p.plus q.plus = []) then (noPatch, 230)
 else if 1048576 < (unionS (minusS p.minus q.plus) (minusS q.minus p.plus)).length \/ 1048576 < (unionS (minusS p.plus q.minus) (minusS q.plus p.minus)).length then (noPatch, 2)
 else (⟨unionS (minusS p.minus q.plus) (minusS q.minus p.plus), unionS (minusS p.plus q.minus) (minusS q.plus p.minus)⟩, 0)
def FineP (p : PatchL) : Prop := Fine p.minus /\ Fine p.plus /\ ∀ x, x ∈ p.minus -> x ∉ p.plus
theorem firstN_zero {a b : Int} : firstN a b = 0 ↔ a = 0 /\ b = 0 := by
 unfold firstN
 by_cases h : a = 0
 · simp [h]
 · simp [h]
theorem checkN_ok (p : PatchL) : checkN p = 0 ↔ FineP p := by
 unfold checkN FineP
 rw [firstN_zero, firstN_zero, validF_ok, validF_ok]
 constructor
 · rintro ⟨⟨h1, h2⟩, h3⟩
   refine ⟨h1, h2, fun x hx hy => ?_⟩
   by_cases h : meetS p.minus p.plus = []
   · have := (mem_meet h1.rise h2.rise x).2 ⟨hx, hy⟩
     rw [h] at this
     cases this
   · rw [if_neg h] at h3
     cases h3
 · rintro ⟨h1, h2, h3⟩
   refine ⟨⟨h1, h2⟩, ?_⟩
   rw [if_pos]
   exact empty_of fun x hx => h3 x ((mem_meet h1.rise h2.rise x).1 hx).1 ((mem_meet h1.rise h2.rise x).1 hx).2
theorem diffN_ok {a b : List QuadL} (ha : Fine a) (hb : Fine b) : diffN a b = (⟨minusS a b, minusS b a⟩, 0) := by
 unfold diffN
 rw [if_neg]
 intro h
 exact h (firstN_zero.2 ⟨(validF_ok a).2 ha, (validF_ok b).2 hb⟩)
theorem diff_fine {a b : List QuadL} (ha : Fine a) (hb : Fine b) : FineP ⟨minusS a b, minusS b a⟩ :=
 ⟨ha.minus hb, hb.minus ha, fun x hx hy => ((mem_minus ha.rise hb.rise x).1 hx).2 ((mem_minus hb.rise ha.rise x).1 hy).1⟩
theorem behindN_ok {must : Bool} {l : List QuadL} {p : PatchL} (hl : Fine l) (hp : FineP p) (hm : must = true -> (∀ x ∈ p.minus, x ∈ l) /\ ∀ x ∈ p.plus, x ∉ l)
   (hn : (unionS (minusS l p.minus) p.plus).length <= 1048576) : behindN must l p = (unionS (minusS l p.minus) p.plus, 0) := by
 unfold behindN
 rw [if_neg, if_neg, if_neg (by omega)]
 · rintro ⟨h, h2⟩
   obtain ⟨h3, h4⟩ := hm h
   refine h2 ⟨empty_of fun x hx => ?_, empty_of fun x hx => ?_⟩
   · rw [mem_minus hp.1.rise hl.rise] at hx; exact hx.2 (h3 x hx.1)
   · rw [mem_meet hp.2.1.rise hl.rise] at hx; exact h4 x hx.1 hx.2
 · intro h
   exact h (firstN_zero.2 ⟨(validF_ok l).2 hl, (checkN_ok p).2 hp⟩)
theorem apply_diff {a b : List QuadL} (ha : Fine a) (hb : Fine b) : behindN true a ⟨minusS a b, minusS b a⟩ = (b, 0) := by
 have hr1 := minus_rise ha.rise hb.rise
 have hr2 := minus_rise hb.rise ha.rise
 have e : unionS (minusS a (minusS a b)) (minusS b a) = b := by
   refine rise_ext (union_rise (minus_rise ha.rise hr1) hr2) hb.rise fun x => ?_
   rw [mem_union (minus_rise ha.rise hr1) hr2, mem_minus ha.rise hr1, mem_minus ha.rise hb.rise, mem_minus hb.rise ha.rise]
   by_cases h1 : x ∈ a <;> by_cases h2 : x ∈ b <;> simp [h1, h2]
 rw [behindN_ok ha (diff_fine ha hb) (fun _ => ⟨fun x hx => ((mem_minus ha.rise hb.rise x).1 hx).1, fun x hx => ((mem_minus hb.rise ha.rise x).1 hx).2⟩) (by simp only [e]; exact hb.1)]
 simp only [e]
theorem compose_diff {a b c : List QuadL} (ha : Fine a) (hb : Fine b) (hc : Fine c) : composeN ⟨minusS a b, minusS b a⟩ ⟨minusS b c, minusS c b⟩ = (⟨minusS a c, minusS c a⟩, 0) := by
 have rab := minus_rise ha.rise hb.rise
 have rba := minus_rise hb.rise ha.rise
 have rbc := minus_rise hb.rise hc.rise
 have rcb := minus_rise hc.rise hb.rise
 have e1 : unionS (minusS (minusS a b) (minusS c b)) (minusS (minusS b c) (minusS b a)) = minusS a c := by
   refine rise_ext (union_rise (minus_rise rab rcb) (minus_rise rbc rba)) (minus_rise ha.rise hc.rise) fun x => ?_
   rw [mem_union (minus_rise rab rcb) (minus_rise rbc rba), mem_minus rab rcb, mem_minus rbc rba, mem_minus ha.rise hb.rise, mem_minus hc.rise hb.rise, mem_minus hb.rise hc.rise, mem_minus hb.rise ha.rise, mem_minus ha.rise hc.rise]
   by_cases h1 : x ∈ a <;> by_cases h2 : x ∈ b <;> by_cases h3 : x ∈ c <;> simp [h1, h2, h3]
 have e2 : unionS (minusS (minusS b a) (minusS b c)) (minusS (minusS c b) (minusS a b)) = minusS c a := by
   refine rise_ext (union_rise (minus_rise rba rbc) (minus_rise rcb rab)) (minus_rise hc.rise ha.rise) fun x => ?_
   rw [mem_union (minus_rise rba rbc) (minus_rise rcb rab), mem_minus rba rbc, mem_minus rcb rab, mem_minus hb.rise ha.rise, mem_minus hb.rise hc.rise, mem_minus hc.rise hb.rise, mem_minus ha.rise hb.rise, mem_minus hc.rise ha.rise]
   by_cases h1 : x ∈ a <;> by_cases h2 : x ∈ b <;> by_cases h3 : x ∈ c <;> simp [h1, h2, h3]
 unfold composeN
 simp only [e1, e2]
 rw [if_neg, if_neg, if_neg]
 · have h1 := (ha.minus hc).1
   have h2 := (hc.minus ha).1
   omega
 · intro h
   refine h ⟨empty_of fun x hx => ?_, empty_of fun x hx => ?_⟩
   · rw [mem_meet rab rbc, mem_minus ha.rise hb.rise, mem_minus hb.rise hc.rise] at hx; exact hx.1.2 hx.2.1
   · rw [mem_meet rba rcb, mem_minus hb.rise ha.rise, mem_minus hc.rise hb.rise] at hx; exact hx.2.2 hx.1.1
 · intro h
   exact h (firstN_zero.2 ⟨(checkN_ok _).2 (diff_fine ha hb), (checkN_ok _).2 (diff_fine hb hc)⟩)
theorem invert_diff {a b : List QuadL} (ha : Fine a) (hb : Fine b) : invertN ⟨minusS a b, minusS b a⟩ = (⟨minusS b a, minusS a b⟩, 0) := by
 unfold invertN
 rw [if_neg (fun h => h ((checkN_ok _).2 (diff_fine ha hb)))]
section
variable {a b c : List QuadL} (ha : Fine a) (hb : Fine b) (hc : Fine c)
include ha hb hc
end
end Go.Proofs.YtmnigckpejcaeaaGreatDoor
namespace Go.Proofs.YtmnigckpejcaeaaGreatDoor
open Go.RowKit
set_option maxRecDepth 1000000
theorem ang_len {t : List UInt8} (h : t.length <= 65536) : (angF t).length <= 393218 := by
 have := escF_len 2 t t.length 0 (by omega)
 unfold angF
 simp only [List.length_cons, List.length_append, List.length_nil]
 omega
theorem text_len {t : TermL} (h : termN t = 0) : (textF t).length <= 786500 /\ (t.kind ≠ 3 -> (textF t).length <= 393218) := by
 rcases term_cases h with ⟨hk, _, _, h3⟩ | ⟨hk, _, _, h3, _⟩ | ⟨hk, h1⟩
 · have := ang_len (iri_len h3)
   unfold textF
   rw [if_pos hk]
   exact ⟨by omega, fun _ => this⟩
 · unfold textF
   rw [if_neg (by omega), if_pos hk]
   simp only [List.length_cons]
   exact ⟨by omega, fun _ => by omega⟩
 · refine ⟨?_, fun hn => absurd hk hn⟩
   obtain ⟨h2, _, h4, h5⟩ := lit_cases h1
   have e := escF_len 1 t.text t.text.length 0 (by omega)
   have a := ang_len (iri_len h4)
   unfold textF
   rw [if_neg (by omega), if_neg (by omega)]
   simp only [List.length_cons, List.length_append]
   have hx : (if t.lang ≠ [] then 64 :: t.lang else if t.type ≠ plainT then 94 :: 94 :: angF t.type else ([] : List UInt8)).length <= 393220 := by
     split
     · rcases h5 with ⟨h6, _⟩ | ⟨_, _, h7, _⟩
       · contradiction
       · rw [List.length_cons]; omega
     · split
       · rw [List.length_cons, List.length_cons]; omega
       · exact Nat.zero_le _
   omega
theorem line_len {q : QuadL} (h : quadN q = 0) : (lineF q).length <= 1967000 := by
 obtain ⟨h1, h2, h3, h4, h5, h6⟩ := line_cases h
 have a := (text_len h2).2 (by omega)
 have b := (text_len h4).2 (by omega)
 have c := (text_len h5).1
 rw [lineF_text h]
 simp only [List.length_append, List.length_cons]
 rcases h6 with h6 | ⟨h6, h7⟩
 · rw [if_pos h6]; simp only [List.length_cons, List.length_nil]; omega
 · have d := (text_len h7).2 (by omega)
   split
   · simp only [List.length_cons, List.length_nil]; omega
   · simp only [List.length_append, List.length_cons, List.length_nil]; omega
end Go.Proofs.YtmnigckpejcaeaaGreatDoor
