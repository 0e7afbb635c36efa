/-
  The set of a list of quads: plain words and laws. No program in sight. By an AI agent.
-/
import Derived.Test.YtdegonmkikfghaaGreatDoorZEscBack0
namespace Go.Proofs.YtdegonmkikfghaaGreatDoor
set_option maxRecDepth 100000
def insQ (q : QuadL) : List QuadL -> List QuadL
 | [] => [q]
 | x :: r => if cmpQ q x < 0 then q :: x :: r else if cmpQ q x = 0 then x :: r else x :: insQ q r
def setQ (l : List QuadL) : List QuadL := l.foldr insQ []
theorem mem_insQ (q : QuadL) : ∀ (l : List QuadL) (x : QuadL), x ∈ insQ q l ↔ x = q \/ x ∈ l
 | [], x => by simp [insQ]
 | y :: r, x => by
  unfold insQ
  split
  ·simp
  ·split
   ·next h =>
    obtain rfl := cmpQ_zero.1 h
    simp
   ·rw [List.mem_cons, mem_insQ q r x, List.mem_cons]
    constructor
    ·rintro (h | h | h)
     ·exact .inr (.inl h)
     ·exact .inl h
     ·exact .inr (.inr h)
    ·rintro (h | h | h)
     ·exact .inr (.inl h)
     ·exact .inl h
     ·exact .inr (.inr h)
theorem insQ_rise (q : QuadL) : ∀ (l : List QuadL), Rise l -> Rise (insQ q l)
 | [], _ => by unfold insQ; exact List.pairwise_singleton _ _
 | x :: r, h => by
  unfold insQ
  split
  ·next hc =>
   refine List.pairwise_cons.2 ⟨fun y hy => ?_, h⟩
   rcases List.mem_cons.1 hy with rfl | hy
   ·exact hc
   ·exact cmpQ_trans hc (h.head y hy)
  ·split
   ·exact h
   ·next h1 h2 =>
    refine List.pairwise_cons.2 ⟨fun y hy => ?_, insQ_rise q r h.tail⟩
    rcases (mem_insQ q r y).1 hy with rfl | hy
    ·rw [cmpQ_swap]; omega
    ·exact h.head y hy
theorem mem_setQ : ∀ (l : List QuadL) (x : QuadL), x ∈ setQ l ↔ x ∈ l
 | [], x => by simp [setQ]
 | q :: r, x => by
  unfold setQ
  rw [List.foldr_cons, mem_insQ, List.mem_cons]
  have := mem_setQ r x
  unfold setQ at this
  rw [this]
theorem setQ_rise : ∀ (l : List QuadL), Rise (setQ l)
 | [] => List.Pairwise.nil
 | q :: r => by
  unfold setQ
  rw [List.foldr_cons]
  exact insQ_rise q _ (setQ_rise r)
theorem setQ_unique {l s : List QuadL} (h : Rise s) (hm : ∀ x, x ∈ s ↔ x ∈ l) : s = setQ l := rise_ext h (setQ_rise l) (fun x => by rw [hm, mem_setQ])
theorem insQ_len (q : QuadL) : ∀ l : List QuadL, (insQ q l).length <= l.length + 1
 | [] => by simp [insQ]
 | x :: r => by
  have := insQ_len q r
  unfold insQ
  split
  ·simp
  ·split <;> (simp; try omega)
theorem setQ_len : ∀ l : List QuadL, (setQ l).length <= l.length
 | [] => by simp [setQ]
 | q :: r => by
  have h1 := setQ_len r
  have h2 := insQ_len q (setQ r)
  unfold setQ at h1 h2 ⊢
  rw [List.foldr_cons, List.length_cons]
  omega
theorem setQ_ext {a b : List QuadL} (h : ∀ x, x ∈ a ↔ x ∈ b) : setQ a = setQ b := setQ_unique (setQ_rise a) (fun x => by rw [mem_setQ, h])
end Go.Proofs.YtdegonmkikfghaaGreatDoor
namespace Go.Proofs.YtdegonmkikfghaaGreatDoor
open Go.RowKit
set_option maxRecDepth 100000
theorem getD_drop (l : List UInt8) (b j : Nat) : (l.drop b).getD j 0 = l.getD (b + j) 0 := by
 rw [List.getD_eq_getElem?_getD, List.getD_eq_getElem?_getD, List.getElem?_drop]
theorem eolF_drop (l : List UInt8) (b : Nat) : ∀ (k j : Nat), (l.drop b).length - j <= k -> eolF l (b + j) = b + eolF (l.drop b) j
 | k, j, hk => by
  have hlen : (l.drop b).length = l.length - b := by simp
  by_cases h : l.length <= b + j
  ·rw [eolF_end h, eolF_end (by omega)]
  cases hc : eolC (l.getD (b + j) 0) with
  | true => rw [eolF_hit (by omega) hc, eolF_hit (by omega) (by rw [getD_drop]; exact hc)]
  | false =>
   rw [eolF_go (by omega) hc, eolF_go (i := j) (by omega) (by rw [getD_drop]; exact hc), Nat.add_assoc]
   match k, hk with
   | 0, hk => omega
   | k + 1, hk => exact eolF_drop l b k (j + 1) (by omega)
def parseF (l : List UInt8) : List QuadL ⊕ (Nat × Int) := match (eachF l 0).2 with
 | some f => .inr f
 | none => .inl (setQ ((eachF l 0).1.map (·.2)))
end Go.Proofs.YtdegonmkikfghaaGreatDoor
namespace Go.Proofs.YtdegonmkikfghaaGreatDoor
open Go.RowKit
set_option maxRecDepth 100000
def linesL (l : List UInt8) (i : Nat) : List (Nat × List UInt8) := if _h : l.length <= i then [] else (i, cutF l i (eolF l i)) :: linesL l (eolF l i + 1)
termination_by l.length - i
decreasing_by have := eolF_ge l i; omega
theorem linesL_end {l : List UInt8} {i : Nat} (h : l.length <= i) : linesL l i = [] := by rw [linesL, dif_pos h]
theorem linesL_step {l : List UInt8} {i : Nat} (h : i < l.length) : linesL l i = (i, cutF l i (eolF l i)) :: linesL l (eolF l i + 1) := by rw [linesL, dif_neg (by omega)]
theorem linesL_len (l : List UInt8) : ∀ (k i : Nat), l.length - i <= k -> (linesL l i).length <= l.length - i
 | k, i, hk => by
  by_cases h : l.length <= i
  ·rw [linesL_end h]; exact Nat.zero_le _
  have hge := eolF_ge l i
  match k, hk with
  | 0, hk => omega
  | k + 1, hk =>
   rw [linesL_step (by omega), List.length_cons]
   have := linesL_len l k (eolF l i + 1) (by omega)
   omega
theorem linesL_mem (l : List UInt8) : ∀ (k i : Nat), l.length - i <= k -> ∀ x ∈ linesL l i, x.1 < l.length /\ x.2.length <= l.length
 | k, i, hk => by
  by_cases h : l.length <= i
  ·rw [linesL_end h]; intro x hx; cases hx
  have hge := eolF_ge l i
  match k, hk with
  | 0, hk => omega
  | k + 1, hk =>
   rw [linesL_step (by omega)]
   intro x hx
   rcases List.mem_cons.1 hx with rfl | hx
   ·exact ⟨by show i < l.length; omega, by show (cutF l i (eolF l i)).length <= l.length; unfold cutF; simp; omega⟩
   ·exact linesL_mem l k (eolF l i + 1) (by omega) x hx
def putQ (a : List QuadL) (q : QuadL) : List QuadL := if q ∈ a then a else a ++ [q]
theorem putQ_old {a : List QuadL} {q : QuadL} (h : q ∈ a) : putQ a q = a := if_pos h
theorem putQ_new {a : List QuadL} {q : QuadL} (h : q ∉ a) : putQ a q = a ++ [q] := if_neg h
theorem mem_putQ (a : List QuadL) (q x : QuadL) : x ∈ putQ a q ↔ x ∈ a \/ x = q := by
 unfold putQ
 split
 ·rename_i h
  exact ⟨.inl, fun h' => h'.elim id (fun e => e ▸ h)⟩
 ·rw [List.mem_append, List.mem_singleton]
theorem putQ_len (a : List QuadL) (q : QuadL) : (putQ a q).length <= a.length + 1 := by
 unfold putQ
 split
 ·omega
 ·simp
theorem mem_putQs : ∀ (L a : List QuadL) (x : QuadL), x ∈ L.foldl putQ a ↔ x ∈ a \/ x ∈ L
 | [], a, x => by simp
 | q :: L, a, x => by
  rw [List.foldl_cons, mem_putQs L, mem_putQ, List.mem_cons, or_assoc]
def stepP (a : List QuadL ⊕ (Nat × Int)) (x : Nat × List UInt8) : List QuadL ⊕ (Nat × Int) :=
 match a with
 | .inr f => .inr f
 | .inl a => match lineAt x.2 with
  | .inr f => .inr (x.1 + f.1, f.2)
  | .inl none => .inl a
  | .inl (some q) => .inl (putQ a q)
def readP (pre : List (Nat × List UInt8)) : List QuadL ⊕ (Nat × Int) := pre.foldl stepP (.inl [])
theorem readP_snoc (pre : List (Nat × List UInt8)) (x : Nat × List UInt8) : readP (pre ++ [x]) = stepP (readP pre) x := by unfold readP; rw [List.foldl_append]; rfl
theorem readP_bad {pre : List (Nat × List UInt8)} {a : List QuadL} {x : Nat × List UInt8} {p : Nat} {e : Int} (h : readP pre = .inl a) (hx : lineAt x.2 = .inr (p, e)) : readP (pre ++ [x]) = .inr (x.1 + p, e) := by
 rw [readP_snoc, h]; simp only [stepP, hx]
theorem readP_none {pre : List (Nat × List UInt8)} {a : List QuadL} {x : Nat × List UInt8} (h : readP pre = .inl a) (hx : lineAt x.2 = .inl none) : readP (pre ++ [x]) = .inl a := by
 rw [readP_snoc, h]; simp only [stepP, hx]
theorem readP_old {pre : List (Nat × List UInt8)} {a : List QuadL} {x : Nat × List UInt8} {q : QuadL} (h : readP pre = .inl a) (hx : lineAt x.2 = .inl (some q)) (hq : q ∈ a) : readP (pre ++ [x]) = .inl a := by
 rw [readP_snoc, h]; simp only [stepP, hx, putQ_old hq]
theorem readP_new {pre : List (Nat × List UInt8)} {a : List QuadL} {x : Nat × List UInt8} {q : QuadL} (h : readP pre = .inl a) (hx : lineAt x.2 = .inl (some q)) (hq : q ∉ a) : readP (pre ++ [x]) = .inl (a ++ [q]) := by
 rw [readP_snoc, h]; simp only [stepP, hx, putQ_new hq]
theorem stepP_stuck : ∀ (r : List (Nat × List UInt8)) (f : Nat × Int), r.foldl stepP (.inr f) = .inr f
 | [], _ => rfl
 | _ :: r, f => stepP_stuck r f
theorem readP_prefix {pre L : List (Nat × List UInt8)} {f : Nat × Int} (h : readP pre = .inr f) (hp : pre <+: L) : readP L = .inr f := by
 obtain ⟨r, rfl⟩ := hp
 have : readP (pre ++ r) = r.foldl stepP (readP pre) := by unfold readP; rw [List.foldl_append]
 rw [this, h, stepP_stuck]
theorem readP_len : ∀ (pre : List (Nat × List UInt8)) (a b : List QuadL), pre.foldl stepP (.inl a) = .inl b -> b.length <= a.length + pre.length
 | [], a, b, h => by cases h; simp
 | x :: r, a, b, h => by
  rw [List.foldl_cons] at h
  obtain ⟨y, hy⟩ : ∃ y, lineAt x.2 = y := ⟨_, rfl⟩
  simp only [stepP, hy] at h
  rcases y with (_ | q) | f
  ·have := readP_len r a b h
   rw [List.length_cons]; omega
  ·have := readP_len r _ b h
   have := putQ_len a q
   rw [List.length_cons]; omega
  ·simp only [stepP_stuck] at h; cases h
theorem readP_length {pre : List (Nat × List UInt8)} {a : List QuadL} (h : readP pre = .inl a) : a.length <= pre.length := by
 have := readP_len pre [] a h
 simpa using this
theorem readP_lines (l : List UInt8) : ∀ (k i : Nat) (a : List QuadL), l.length - i <= k -> (linesL l i).foldl stepP (.inl a) = (match (eachF l i).2 with
  | some f => .inr f
  | none => .inl (((eachF l i).1.map (·.2)).foldl putQ a))
 | k, i, a, hk => by
  by_cases h : l.length <= i
  ·rw [linesL_end h, eachF_end h]; rfl
  have hge := eolF_ge l i
  match k, hk with
  | 0, hk => omega
  | k + 1, hk =>
   have ih := fun a => readP_lines l k (eolF l i + 1) a (by omega)
   rw [linesL_step (by omega), List.foldl_cons]
   obtain ⟨y, hy⟩ : ∃ y, lineAt (cutF l i (eolF l i)) = y := ⟨_, rfl⟩
   rcases y with (_ | q) | ⟨p, e⟩
   ·rw [eachF_none (by omega) hy, show stepP (.inl a) (i, cutF l i (eolF l i)) = .inl a by simp only [stepP, hy], ih]
   ·rw [eachF_some (by omega) hy, show stepP (.inl a) (i, cutF l i (eolF l i)) = .inl (putQ a q) by simp only [stepP, hy], ih]
    rfl
   ·rw [eachF_bad (by omega) hy, show stepP (.inl a) (i, cutF l i (eolF l i)) = .inr (i + p, e) by simp only [stepP, hy], stepP_stuck]
theorem parse_bad {l : List UInt8} {f : Nat × Int} (h : readP (linesL l 0) = .inr f) : parseF l = .inr f := by
 have h1 := readP_lines l l.length 0 [] (by omega)
 unfold readP at h
 rw [h] at h1
 unfold parseF
 cases h2 : (eachF l 0).2 with
 | none => rw [h2] at h1; cases h1
 | some g => rw [h2] at h1; cases h1; rfl
theorem parse_ok {l : List UInt8} {a : List QuadL} (h : readP (linesL l 0) = .inl a) : parseF l = .inl (setQ a) := by
 have h1 := readP_lines l l.length 0 [] (by omega)
 unfold readP at h
 rw [h] at h1
 unfold parseF
 cases h2 : (eachF l 0).2 with
 | some g => rw [h2] at h1; cases h1
 | none =>
  rw [h2] at h1
  cases h1
  show Sum.inl (setQ _) = Sum.inl (setQ _)
  exact congrArg Sum.inl (setQ_ext (fun x => by rw [mem_putQs]; simp)).symm
end Go.Proofs.YtdegonmkikfghaaGreatDoor
namespace Go.Proofs.YtdegonmkikfghaaGreatDoor
open Go.RowKit
set_option maxRecDepth 100000
def WfT (t : TermL) : Prop := (0 <= t.kind /\ t.kind <= 3) /\ t.text.length <= 65536 /\ t.type.length <= 65536 /\ t.lang.length <= 65536
def WfQ (q : QuadL) : Prop := WfT q.s /\ WfT q.p /\ WfT q.o /\ WfT q.g
theorem wfT_none : WfT noTerm := by unfold WfT noTerm; simp
theorem iri_len {t : List UInt8} (h : iriN t = 0) : t.length <= 65536 := by
 by_cases hl : t.length <= 65536
 ·exact hl
 ·unfold iriN refN at h
  simp [show 65536 < t.length by omega] at h
theorem behindF_wf {l t : List UInt8} {e n : Nat} {u : TermL} (h : behindF l t e = .inl (u, n)) (ht : t.length <= 65536) : WfT u := by
 unfold behindF at h
 split at h
 ·split at h
  ·cases h
  ·next lang m hq =>
   cases h
   unfold tagAt at hq
   split at hq
   ·cases hq
   ·split at hq
    ·cases hq
    ·next h1 _ =>
     cases hq
     refine ⟨⟨by simp, by simp⟩, ht, (by show tagged.length <= 65536; decide), ?_⟩
     show (lowL _).length <= 65536
     rw [lowL_len']; omega
 ·split at h
  ·split at h
   ·cases h
   ·next ty m hq =>
    split at h
    ·cases h
    ·cases h
     exact ⟨⟨by simp, by simp⟩, ht, iri_len (iriAt_good hq).1, by simp⟩
  ·cases h
   exact ⟨⟨by simp, by simp⟩, ht, (by show plainT.length <= 65536; decide), by simp⟩
where lowL_len' {l : List UInt8} : (lowL l).length = l.length := by simp [lowL]
theorem termAt_wf {l : List UInt8} {i n : Nat} {t : TermL} (h : termAt l i = .inl (t, n)) : WfT t := by
 unfold termAt at h
 split at h
 ·split at h
  ·cases h
  ·next x m hq =>
   cases h
   exact ⟨⟨by simp, by simp⟩, iri_len (iriAt_good hq).1, by simp, by simp⟩
 ·split at h
  ·unfold litAt at h
   split at h
   ·cases h
   ·split at h
    ·cases h
    ·split at h
     ·cases h
     ·exact behindF_wf h (by omega)
  ·split at h
   ·unfold blankAt at h
    split at h
    ·cases h
    ·split at h
     ·cases h
     ·split at h
      ·cases h
      ·next h1 =>
       cases h
       refine ⟨⟨by simp, by simp⟩, ?_, by simp, by simp⟩
       show (cutF _ _ _).length <= 65536
       unfold cutF
       rw [List.length_take, List.length_drop]
       omega
   ·cases h
theorem slotF_wf {l s : List UInt8} {i n : Nat} {t : TermL} (h : slotF l i s = .inl (t, n)) : WfT t := by
 unfold slotF at h
 split at h
 ·split at h
  ·cases h
  ·next x m hq =>
   cases h
   exact termAt_wf hq
 ·cases h
theorem stmtF_wf {l : List UInt8} {i n : Nat} {q : QuadL} (h : stmtF l i = .inl (q, n)) : WfQ q := by
 unfold stmtF at h
 split at h
 ·cases h
 ·next h1 =>
  split at h
  ·cases h
  ·next h2 =>
   split at h
   ·cases h
   ·next h3 =>
    split at h
    ·cases h
     exact ⟨slotF_wf h1, slotF_wf h2, slotF_wf h3, wfT_none⟩
    ·split at h
     ·cases h
     ·next h4 =>
      split at h
      ·cases h
       exact ⟨slotF_wf h1, slotF_wf h2, slotF_wf h3, slotF_wf h4⟩
      ·cases h
theorem lineAt_wf {l : List UInt8} {q : QuadL} (h : lineAt l = .inl (some q)) : WfQ q := by
 unfold lineAt at h
 split at h
 ·split at h
  ·cases h
  ·next h1 =>
   split at h
   ·cases h
   ·cases h
    exact stmtF_wf h1
 ·split at h
  ·cases h
  ·cases h
def GoodA (a : List QuadL) : Prop := a.Nodup /\ ∀ q ∈ a, WfQ q
theorem goodA_nil : GoodA [] := ⟨List.nodup_nil, fun q h => by cases h⟩
theorem putQ_good {a : List QuadL} {q : QuadL} (h : GoodA a) (hq : WfQ q) : GoodA (putQ a q) := by
 by_cases hm : q ∈ a
 ·rw [putQ_old hm]; exact h
 ·rw [putQ_new hm]
  refine ⟨?_, fun x hx => ?_⟩
  ·rw [List.nodup_append]
   refine ⟨h.1, by simp, fun x hx y hy => ?_⟩
   obtain rfl := List.mem_singleton.1 hy
   exact fun e => hm (e ▸ hx)
  ·rcases List.mem_append.1 hx with hx | hx
   ·exact h.2 x hx
   ·obtain rfl := List.mem_singleton.1 hx
    exact hq
theorem readP_good' : ∀ (pre : List (Nat × List UInt8)) (a b : List QuadL), GoodA a -> pre.foldl stepP (.inl a) = .inl b -> GoodA b
 | [], a, b, h, e => by cases e; exact h
 | x :: r, a, b, h, e => by
  rw [List.foldl_cons] at e
  obtain ⟨y, hy⟩ : ∃ y, lineAt x.2 = y := ⟨_, rfl⟩
  simp only [stepP, hy] at e
  rcases y with (_ | q) | f
  ·exact readP_good' r a b h e
  ·exact readP_good' r _ b (putQ_good h (lineAt_wf hy)) e
  ·simp only [stepP_stuck] at e; cases e
theorem readP_good {pre : List (Nat × List UInt8)} {a : List QuadL} (h : readP pre = .inl a) : GoodA a := readP_good' pre [] a goodA_nil h
end Go.Proofs.YtdegonmkikfghaaGreatDoor
