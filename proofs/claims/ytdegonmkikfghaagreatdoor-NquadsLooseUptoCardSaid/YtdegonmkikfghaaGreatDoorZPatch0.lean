/-
  What patches do to sets of quads: the plain words and laws. No program in sight. By an AI agent.
-/
import Derived.Test.YtdegonmkikfghaaGreatDoorZTerm0
import Derived.Test.YtdegonmkikfghaaGreatDoorZSort0
import Derived.Test.YtdegonmkikfghaaGreatDoorZAdd
namespace Go.Proofs.YtdegonmkikfghaaGreatDoor
set_option maxRecDepth 100000
def minusS (a b : List QuadL) : List QuadL := if riseB a && riseB b then mergeF true false false a b else []
def unionS (a b : List QuadL) : List QuadL := if riseB a && riseB b then mergeF true true true a b else []
section
variable {a b : List QuadL} (ha : Rise a) (hb : Rise b)
include ha hb
theorem both_rise : (riseB a && riseB b) = true := by rw [Bool.and_eq_true, riseB_iff, riseB_iff]; exact ⟨ha, hb⟩
theorem mem_minus (x : QuadL) : x ∈ minusS a b ↔ x ∈ a /\ x ∉ b := by
 unfold minusS
 rw [both_rise ha hb, if_pos rfl, mergeF_mem _ _ _ _ a b (Nat.le_refl _) ha hb]
 simp
theorem mem_union (x : QuadL) : x ∈ unionS a b ↔ x ∈ a \/ x ∈ b := by
 unfold unionS
 rw [both_rise ha hb, if_pos rfl, mergeF_mem _ _ _ _ a b (Nat.le_refl _) ha hb]
 by_cases h1 : x ∈ a <;> by_cases h2 : x ∈ b <;> simp [h1, h2]
theorem minus_rise : Rise (minusS a b) := by
 unfold minusS
 rw [both_rise ha hb, if_pos rfl]
 exact mergeF_rise _ _ _ _ a b (Nat.le_refl _) ha hb
theorem union_rise : Rise (unionS a b) := by
 unfold unionS
 rw [both_rise ha hb, if_pos rfl]
 exact mergeF_rise _ _ _ _ a b (Nat.le_refl _) ha hb
theorem minus_len : (minusS a b).length <= a.length := by
 unfold minusS
 rw [both_rise ha hb, if_pos rfl, <- minus_merge ha hb, bothR_filter _ ha hb]
 exact List.length_filter_le _ _
end
theorem Fine.rise {l : List QuadL} (h : Fine l) : Rise l := h.2.2
theorem Fine.minus {a b : List QuadL} (ha : Fine a) (hb : Fine b) : Fine (minusS a b) :=
 ⟨Nat.le_trans (minus_len ha.rise hb.rise) ha.1, fun q hq => ha.2.1 q ((mem_minus ha.rise hb.rise q).1 hq).1, minus_rise ha.rise hb.rise⟩
structure PatchL where
 minus : List QuadL
 plus : List QuadL
 deriving DecidableEq
def noPatch : PatchL := ⟨[], []⟩
section
variable {a b c : List QuadL} (ha : Fine a) (hb : Fine b) (hc : Fine c)
include ha hb hc
end
end Go.Proofs.YtdegonmkikfghaaGreatDoor
namespace Go.Proofs.YtdegonmkikfghaaGreatDoor
open Go.RowKit
set_option maxRecDepth 100000
theorem eachF_few (s : List UInt8) : ∀ (k i : Nat), s.length - i <= k -> (eachF s i).1.length <= k
 | k, i, hk => by
   by_cases h : s.length <= i
   · rw [eachF_end h]; exact Nat.zero_le _
   have hge := eolF_ge s i
   match k, hk with
   | 0, hk => omega
   | k + 1, hk =>
     have ih := eachF_few s k (eolF s i + 1) (by omega)
     cases hq : lineAt (cutF s i (eolF s i)) with
     | inr f => obtain ⟨p, e⟩ := f; rw [eachF_bad (by omega) hq]; exact Nat.zero_le _
     | inl o =>
       cases o with
       | none => rw [eachF_none (by omega) hq]; omega
       | some q => rw [eachF_some (by omega) hq, List.length_cons]; omega
theorem parse_few {s : List UInt8} {a : List QuadL} (h : parseF s = .inl a) : a.length <= s.length := by
 unfold parseF at h
 cases h2 : (eachF s 0).2 with
 | some f => rw [h2] at h; cases h
 | none =>
   rw [h2] at h
   cases h
   refine Nat.le_trans (setQ_len _) ?_
   rw [List.length_map]
   exact eachF_few s s.length 0 (by omega)
theorem parse_rise {s : List UInt8} {a : List QuadL} (h : parseF s = .inl a) : Rise a := by
 unfold parseF at h
 cases h2 : (eachF s 0).2 with
 | some f => rw [h2] at h; cases h
 | none => rw [h2] at h; cases h; exact setQ_rise _
theorem two_bad {s t : List UInt8} {f : Nat × Int} (h : parseF s = .inr f) : parseF (s ++ 10 :: t) = .inr f := by
 unfold parseF at h ⊢
 rw [each_two (by rfl)]
 cases h2 : (eachF s 0).2 with
 | none => rw [h2] at h; cases h
 | some g => rw [h2] at h; cases h; rfl
theorem two_bad2 {s t : List UInt8} {a : List QuadL} {p : Nat} {c : Int} (h : parseF s = .inl a) (h' : parseF t = .inr (p, c)) : parseF (s ++ 10 :: t) = .inr (s.length + 1 + p, c) := by
 unfold parseF at h h' ⊢
 rw [each_two (by rfl)]
 cases h2 : (eachF s 0).2 with
 | some g => rw [h2] at h; cases h
 | none =>
   cases h3 : (eachF t 0).2 with
   | none => rw [h3] at h'; cases h'
   | some g => rw [h3] at h'; cases h'; simp only [shiftP, h3, Option.map_some]
theorem two_ok {s t : List UInt8} {a b : List QuadL} (h : parseF s = .inl a) (h' : parseF t = .inl b) : parseF (s ++ 10 :: t) = .inl (unionS a b) := by
 have ha := parse_rise h
 have hb := parse_rise h'
 unfold parseF at h h' ⊢
 rw [each_two (by rfl)]
 cases h2 : (eachF s 0).2 with
 | some g => rw [h2] at h; cases h
 | none =>
   cases h3 : (eachF t 0).2 with
   | some g => rw [h3] at h'; cases h'
   | none =>
     rw [h2] at h
     rw [h3] at h'
     have h := Sum.inl.inj h
     have h' := Sum.inl.inj h'
     simp only [shiftP, h3, Option.map_none]
     refine congrArg Sum.inl (setQ_unique (union_rise ha hb) (fun x => ?_)).symm
     rw [mem_union ha hb, <- h, <- h', mem_setQ, mem_setQ, List.map_append, List.mem_append, List.map_map]
     rfl
end Go.Proofs.YtdegonmkikfghaaGreatDoor
namespace Go.Proofs.YtdegonmkikfghaaGreatDoor
open Go.RowKit
set_option maxRecDepth 1000000
theorem eachF_quads (s : List UInt8) : ∀ (k i : Nat), s.length - i <= k -> ∀ x ∈ (eachF s i).1, quadN x.2 = 0 /\ WfQ x.2
 | k, i, hk => by
   by_cases h : s.length <= i
   · rw [eachF_end h]; intro x hx; cases hx
   have hge := eolF_ge s i
   match k, hk with
   | 0, hk => omega
   | k + 1, hk =>
     have ih := eachF_quads s k (eolF s i + 1) (by omega)
     cases hq : lineAt (cutF s i (eolF s i)) with
     | inr f => obtain ⟨p, e⟩ := f; rw [eachF_bad (by omega) hq]; intro x hx; cases hx
     | inl o =>
       cases o with
       | none => rw [eachF_none (by omega) hq]; exact ih
       | some q =>
         rw [eachF_some (by omega) hq]
         intro x hx
         rcases List.mem_cons.1 hx with rfl | hx
         · exact ⟨lineAt_ok hq, lineAt_wf hq⟩
         · exact ih x hx
theorem line_none : lineAt [] = .inl none := by kernel_rfl
theorem eachF_half (s : List UInt8) : ∀ (k i : Nat), s.length - i <= k -> 2 * (eachF s i).1.length <= s.length + 1 - i
 | k, i, hk => by
   by_cases h : s.length <= i
   · rw [eachF_end h]; exact Nat.zero_le _
   have hge := eolF_ge s i
   match k, hk with
   | 0, hk => omega
   | k + 1, hk =>
     have ih := eachF_half s k (eolF s i + 1) (by omega)
     cases hq : lineAt (cutF s i (eolF s i)) with
     | inr f => obtain ⟨p, e⟩ := f; rw [eachF_bad (by omega) hq]; exact Nat.zero_le _
     | inl o =>
       cases o with
       | none => rw [eachF_none (by omega) hq]; omega
       | some q =>
         rw [eachF_some (by omega) hq, List.length_cons]
         have : eolF s i ≠ i := fun e => by
           rw [e] at hq
           have hc : cutF s i i = [] := by unfold cutF; simp
           rw [hc, line_none] at hq; cases hq
         omega
theorem parse_half {s : List UInt8} {a : List QuadL} (h : parseF s = .inl a) : 2 * a.length <= s.length + 1 := by
 unfold parseF at h
 cases h2 : (eachF s 0).2 with
 | some f => rw [h2] at h; cases h
 | none =>
   rw [h2] at h
   cases h
   have h3 := eachF_half s s.length 0 (by omega)
   have h4 := setQ_len ((eachF s 0).1.map (·.2))
   rw [List.length_map] at h4
   omega
theorem parse_quads {s : List UInt8} {a : List QuadL} (h : parseF s = .inl a) : ∀ q ∈ a, quadN q = 0 /\ WfQ q := by
 unfold parseF at h
 cases h2 : (eachF s 0).2 with
 | some f => rw [h2] at h; cases h
 | none =>
   rw [h2] at h
   cases h
   intro q hq
   rw [mem_setQ] at hq
   obtain ⟨x, hx, rfl⟩ := List.mem_map.1 hq
   exact eachF_quads s s.length 0 (by omega) x hx
theorem parse_fine {s : List UInt8} {a : List QuadL} (h : parseF s = .inl a) (hs : s.length <= 1048576) : Fine a :=
 ⟨by have := parse_half h; omega, fun q hq => (parse_quads h q hq).1, parse_rise h⟩
theorem parse_lines {l : List QuadL} (h : Fine l) : parseF (linesF l) = .inl l := by
 obtain ⟨h1, h2⟩ := each_lines l 0 h.2.1 (Nat.zero_le _) (l := linesF l) (by simp)
 unfold parseF
 rw [h2, h1]
 exact congrArg Sum.inl (setQ_self h.2.2)
theorem ang_len {t : List UInt8} (h : t.length <= 65536) : (angF t).length <= 393218 := by
 have := escF_len 2 t t.length 0 (by omega)
 unfold angF
 simp only [List.length_cons, List.length_append, List.length_nil]
 omega
theorem text_len {t : TermL} (h : termN t = 0) : (textF t).length <= 786500 /\ (t.kind ≠ 3 -> (textF t).length <= 393218) := by
 rcases term_cases h with ⟨hk, _, _, h3⟩ | ⟨hk, _, _, h3, _⟩ | ⟨hk, h1⟩
 · have := ang_len (iri_len h3)
   unfold textF
   rw [if_pos hk]
   exact ⟨by omega, fun _ => this⟩
 · unfold textF
   rw [if_neg (by omega), if_pos hk]
   simp only [List.length_cons]
   exact ⟨by omega, fun _ => by omega⟩
 · refine ⟨?_, fun hn => absurd hk hn⟩
   obtain ⟨h2, _, h4, h5⟩ := lit_cases h1
   have e := escF_len 1 t.text t.text.length 0 (by omega)
   have a := ang_len (iri_len h4)
   unfold textF
   rw [if_neg (by omega), if_neg (by omega)]
   simp only [List.length_cons, List.length_append]
   have hx : (if t.lang ≠ [] then 64 :: t.lang else if t.type ≠ plainT then 94 :: 94 :: angF t.type else ([] : List UInt8)).length <= 393220 := by
     split
     · rcases h5 with ⟨h6, _⟩ | ⟨_, _, h7, _⟩
       · contradiction
       · rw [List.length_cons]; omega
     · split
       · rw [List.length_cons, List.length_cons]; omega
       · exact Nat.zero_le _
   omega
theorem line_len {q : QuadL} (h : quadN q = 0) : (lineF q).length <= 1967000 := by
 obtain ⟨h1, h2, h3, h4, h5, h6⟩ := line_cases h
 have a := (text_len h2).2 (by omega)
 have b := (text_len h4).2 (by omega)
 have c := (text_len h5).1
 rw [lineF_text h]
 simp only [List.length_append, List.length_cons]
 rcases h6 with h6 | ⟨h6, h7⟩
 · rw [if_pos h6]; simp only [List.length_cons, List.length_nil]; omega
 · have d := (text_len h7).2 (by omega)
   split
   · simp only [List.length_cons, List.length_nil]; omega
   · simp only [List.length_append, List.length_cons, List.length_nil]; omega
theorem lines_len : ∀ {l : List QuadL}, (∀ q ∈ l, quadN q = 0) -> (linesF l).length <= 1967001 * l.length
 | [], _ => Nat.zero_le _
 | q :: l, h => by
   have h1 := line_len (h q (List.mem_cons_self ..))
   have h2 := lines_len (l := l) (fun x hx => h x (List.mem_cons_of_mem _ hx))
   have h3 : (linesF (q :: l)).length = (lineF q).length + 1 + (linesF l).length := by simp [linesF]; omega
   rw [h3, List.length_cons]
   omega
theorem lines_lines {l : List UInt8} : ∀ (qs : List QuadL) (i : Nat), (∀ q ∈ qs, quadN q = 0) -> i <= l.length -> l.drop i = linesF qs -> (linesL l i).length = qs.length /\ ∀ x ∈ linesL l i, x.2.length <= 1967000
 | [], i, _, hi, hd => by
   have : l.length <= i := by
     have := congrArg List.length hd
     simp [linesF] at this
     omega
   rw [linesL_end this]
   exact ⟨rfl, fun x hx => by cases hx⟩
 | q :: qs, i, hq, hi, hd => by
   have h0 := hq q (List.mem_cons_self ..)
   have hd2 : l.drop i = lineF q ++ 10 :: linesF qs := by rw [hd]; simp [linesF]
   have he := eolF_plain (d := 10) (by decide) (lineF q) i hd2 (eol_line h0)
   have hlt : i + (lineF q).length < l.length := by
     have := congrArg List.length hd2
     simp at this
     omega
   obtain ⟨_, _, hd3⟩ := drop_head (drop_more hd2)
   have hc : cutF l i (eolF l i) = lineF q := by rw [he]; exact cutF_of hd2
   obtain ⟨h1, h2⟩ := lines_lines qs (i + (lineF q).length + 1) (fun x hx => hq x (List.mem_cons_of_mem _ hx)) (by omega) hd3
   rw [linesL_step (by omega), hc, he]
   refine ⟨by rw [List.length_cons, List.length_cons, h1], fun x hx => ?_⟩
   rcases List.mem_cons.1 hx with rfl | hx
   · exact line_len h0
   · exact h2 x hx
end Go.Proofs.YtdegonmkikfghaaGreatDoor
