/-
  The set of a list of quads: plain words and laws. No program in sight. By an AI agent.
-/
import Derived.Test.YtmnigckpejcaeaaGreatDoorZTerm0
import Derived.Test.YtmnigckpejcaeaaGreatDoorZEscBack0
import Derived.Test.YtmnigckpejcaeaaGreatDoorZApp
import Derived.Test.YtmnigckpejcaeaaGreatDoorZGPlain
import Derived.Test.YtmnigckpejcaeaaGreatDoorZLower
import Derived.RangeFuncBox
namespace Go.Proofs.YtmnigckpejcaeaaGreatDoor
set_option maxRecDepth 100000
def insQ (q : QuadL) : List QuadL -> List QuadL
 | [] => [q]
 | x :: r => if cmpQ q x < 0 then q :: x :: r else if cmpQ q x = 0 then x :: r else x :: insQ q r
def setQ (l : List QuadL) : List QuadL := l.foldr insQ []
theorem mem_insQ (q : QuadL) : ∀ (l : List QuadL) (x : QuadL), x ∈ insQ q l ↔ x = q \/ x ∈ l
 | [], x => by simp [insQ]
 | y :: r, x => by
   unfold insQ
   split
   · simp
   · split
     · next h =>
       obtain rfl := cmpQ_zero.1 h
       simp
     · rw [List.mem_cons, mem_insQ q r x, List.mem_cons]
       constructor
       · rintro (h | h | h)
         · exact .inr (.inl h)
         · exact .inl h
         · exact .inr (.inr h)
       · rintro (h | h | h)
         · exact .inr (.inl h)
         · exact .inl h
         · exact .inr (.inr h)
theorem insQ_rise (q : QuadL) : ∀ (l : List QuadL), Rise l -> Rise (insQ q l)
 | [], _ => by unfold insQ; exact List.pairwise_singleton _ _
 | x :: r, h => by
   unfold insQ
   split
   · next hc =>
     refine List.pairwise_cons.2 ⟨fun y hy => ?_, h⟩
     rcases List.mem_cons.1 hy with rfl | hy
     · exact hc
     · exact cmpQ_trans hc (h.head y hy)
   · split
     · exact h
     · next h1 h2 =>
       refine List.pairwise_cons.2 ⟨fun y hy => ?_, insQ_rise q r h.tail⟩
       rcases (mem_insQ q r y).1 hy with rfl | hy
       · rw [cmpQ_swap]; omega
       · exact h.head y hy
theorem mem_setQ : ∀ (l : List QuadL) (x : QuadL), x ∈ setQ l ↔ x ∈ l
 | [], x => by simp [setQ]
 | q :: r, x => by
   unfold setQ
   rw [List.foldr_cons, mem_insQ, List.mem_cons]
   have := mem_setQ r x
   unfold setQ at this
   rw [this]
theorem setQ_rise : ∀ (l : List QuadL), Rise (setQ l)
 | [] => List.Pairwise.nil
 | q :: r => by
   unfold setQ
   rw [List.foldr_cons]
   exact insQ_rise q _ (setQ_rise r)
theorem setQ_unique {l s : List QuadL} (h : Rise s) (hm : ∀ x, x ∈ s ↔ x ∈ l) : s = setQ l := rise_ext h (setQ_rise l) (fun x => by rw [hm, mem_setQ])
end Go.Proofs.YtmnigckpejcaeaaGreatDoor
namespace Go.Proofs.YtmnigckpejcaeaaGreatDoor
open Go.RowKit
set_option maxRecDepth 100000
theorem getD_drop (l : List UInt8) (b j : Nat) : (l.drop b).getD j 0 = l.getD (b + j) 0 := by
 rw [List.getD_eq_getElem?_getD, List.getD_eq_getElem?_getD, List.getElem?_drop]
theorem eolF_drop (l : List UInt8) (b : Nat) : ∀ (k j : Nat), (l.drop b).length - j <= k -> eolF l (b + j) = b + eolF (l.drop b) j
 | k, j, hk => by
   have hlen : (l.drop b).length = l.length - b := by simp
   by_cases h : l.length <= b + j
   · rw [eolF_end h, eolF_end (by omega)]
   cases hc : eolC (l.getD (b + j) 0) with
   | true => rw [eolF_hit (by omega) hc, eolF_hit (by omega) (by rw [getD_drop]; exact hc)]
   | false =>
     rw [eolF_go (by omega) hc, eolF_go (i := j) (by omega) (by rw [getD_drop]; exact hc), Nat.add_assoc]
     match k, hk with
     | 0, hk => omega
     | k + 1, hk => exact eolF_drop l b k (j + 1) (by omega)
end Go.Proofs.YtmnigckpejcaeaaGreatDoor
namespace Go.Proofs.YtmnigckpejcaeaaGreatDoor
open Go.RowKit
set_option maxRecDepth 100000
def linesL (l : List UInt8) (i : Nat) : List (Nat × List UInt8) := if _h : l.length <= i then [] else (i, cutF l i (eolF l i)) :: linesL l (eolF l i + 1)
termination_by l.length - i
decreasing_by have := eolF_ge l i; omega
theorem linesL_end {l : List UInt8} {i : Nat} (h : l.length <= i) : linesL l i = [] := by rw [linesL, dif_pos h]
theorem linesL_step {l : List UInt8} {i : Nat} (h : i < l.length) : linesL l i = (i, cutF l i (eolF l i)) :: linesL l (eolF l i + 1) := by rw [linesL, dif_neg (by omega)]
end Go.Proofs.YtmnigckpejcaeaaGreatDoor
namespace Go.Proofs.YtmnigckpejcaeaaGreatDoor
open Go.RowKit
set_option maxRecDepth 100000
def WfT (t : TermL) : Prop := (0 <= t.kind /\ t.kind <= 3) /\ t.text.length <= 65536 /\ t.type.length <= 65536 /\ t.lang.length <= 65536
def WfQ (q : QuadL) : Prop := WfT q.s /\ WfT q.p /\ WfT q.o /\ WfT q.g
theorem wfT_none : WfT noTerm := by unfold WfT noTerm; simp
theorem iri_len {t : List UInt8} (h : iriN t = 0) : t.length <= 65536 := by
 by_cases hl : t.length <= 65536
 · exact hl
 · unfold iriN refN at h
   simp [show 65536 < t.length by omega] at h
theorem behindF_wf {l t : List UInt8} {e n : Nat} {u : TermL} (h : behindF l t e = .inl (u, n)) (ht : t.length <= 65536) : WfT u := by
 unfold behindF at h
 split at h
 · split at h
   · cases h
   · next lang m hq =>
     cases h
     unfold tagAt at hq
     split at hq
     · cases hq
     · split at hq
       · cases hq
       · next h1 _ =>
         cases hq
         refine ⟨⟨by simp, by simp⟩, ht, (by show tagged.length <= 65536; decide), ?_⟩
         show (lowL _).length <= 65536
         rw [lowL_len']; omega
 · split at h
   · split at h
     · cases h
     · next ty m hq =>
       split at h
       · cases h
       · cases h
         exact ⟨⟨by simp, by simp⟩, ht, iri_len (iriAt_good hq).1, by simp⟩
   · cases h
     exact ⟨⟨by simp, by simp⟩, ht, (by show plainT.length <= 65536; decide), by simp⟩
where lowL_len' {l : List UInt8} : (lowL l).length = l.length := by simp [lowL]
theorem termAt_wf {l : List UInt8} {i n : Nat} {t : TermL} (h : termAt l i = .inl (t, n)) : WfT t := by
 unfold termAt at h
 split at h
 · split at h
   · cases h
   · next x m hq =>
     cases h
     exact ⟨⟨by simp, by simp⟩, iri_len (iriAt_good hq).1, by simp, by simp⟩
 · split at h
   · unfold litAt at h
     split at h
     · cases h
     · split at h
       · cases h
       · split at h
         · cases h
         · exact behindF_wf h (by omega)
   · split at h
     · unfold blankAt at h
       split at h
       · cases h
       · split at h
         · cases h
         · split at h
           · cases h
           · next h1 =>
             cases h
             refine ⟨⟨by simp, by simp⟩, ?_, by simp, by simp⟩
             show (cutF _ _ _).length <= 65536
             unfold cutF
             rw [List.length_take, List.length_drop]
             omega
     · cases h
theorem slotF_wf {l s : List UInt8} {i n : Nat} {t : TermL} (h : slotF l i s = .inl (t, n)) : WfT t := by
 unfold slotF at h
 split at h
 · split at h
   · cases h
   · next x m hq =>
     cases h
     exact termAt_wf hq
 · cases h
theorem stmtF_wf {l : List UInt8} {i n : Nat} {q : QuadL} (h : stmtF l i = .inl (q, n)) : WfQ q := by
 unfold stmtF at h
 split at h
 · cases h
 · next h1 =>
   split at h
   · cases h
   · next h2 =>
     split at h
     · cases h
     · next h3 =>
       split at h
       · cases h
         exact ⟨slotF_wf h1, slotF_wf h2, slotF_wf h3, wfT_none⟩
       · split at h
         · cases h
         · next h4 =>
           split at h
           · cases h
             exact ⟨slotF_wf h1, slotF_wf h2, slotF_wf h3, slotF_wf h4⟩
           · cases h
theorem lineAt_wf {l : List UInt8} {q : QuadL} (h : lineAt l = .inl (some q)) : WfQ q := by
 unfold lineAt at h
 split at h
 · split at h
   · cases h
   · next h1 =>
     split at h
     · cases h
     · cases h
       exact stmtF_wf h1
 · split at h
   · cases h
   · cases h
end Go.Proofs.YtmnigckpejcaeaaGreatDoor
namespace Go.Proofs.YtmnigckpejcaeaaGreatDoor
open Go.RowKit
set_option maxRecDepth 100000
theorem grownBy_trans {w v u : World} {r : Option Nat} (h : w.grownBy v r) (h2 : v.grownBy u r) : w.grownBy u r :=
 ⟨h2.1.trans h.1, h2.2.trans h.2, h2.3.trans h.3, Nat.le_trans h.4 h2.4, fun b hb hn => (h2.5 b (Nat.lt_of_lt_of_le hb h.4) hn).trans (h.5 b hb hn)⟩
end Go.Proofs.YtmnigckpejcaeaaGreatDoor
