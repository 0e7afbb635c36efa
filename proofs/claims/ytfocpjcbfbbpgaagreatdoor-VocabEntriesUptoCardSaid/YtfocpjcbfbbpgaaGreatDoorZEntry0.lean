/-
  Entries of a vocabulary: a term as a text, and back, as the program does it and as the reference does it: one answer. No program in sight. By an AI agent.
-/
import Derived.Test.YtfocpjcbfbbpgaaGreatDoorZTerm0
import Derived.Lib.Replace
import Derived.Lib.CountLaws
namespace Go.Proofs.YtfocpjcbfbbpgaaGreatDoor
set_option maxRecDepth 100000
theorem index_pass {old r : List UInt8} {c : UInt8} (h : old.isPrefixOf (c :: r) = false) : Lib.index (c :: r) old = if Lib.index r old == -1 then -1 else Lib.index r old + 1 := by
 rw [Lib.index, h]; rfl
theorem repK_pass {old new r : List UInt8} {c : UInt8} (ho : old ≠ []) (h : old.isPrefixOf (c :: r) = false) :
   Lib.replaceK old new (Lib.count (c :: r) old) (c :: r) = c :: Lib.replaceK old new (Lib.count r old) r := by
 have hi := index_pass h
 by_cases hm : Lib.index r old = -1
 · rw [hm] at hi
   rw [Lib.count_miss hi, Lib.count_miss hm]
   rfl
 · have hge := Lib.index_ge r old
   obtain ⟨i, hr⟩ : ∃ i : Nat, Lib.index r old = i := ⟨(Lib.index r old).toNat, by omega⟩
   rw [hr] at hi
   have hb : ((i : Int) == -1) = false := beq_eq_false_iff_ne.2 (by omega)
   rw [hb] at hi
   have hi' : Lib.index (c :: r) old = ((i + 1 : Nat) : Int) := by rw [hi]; simp
   have h1 := Lib.count_hit ho hi'
   have h2 := Lib.count_hit ho hr
   have e : (c :: r).drop (i + 1 + old.length) = r.drop (i + old.length) := by rw [show i + 1 + old.length = (i + old.length) + 1 by omega, List.drop_succ_cons]
   rw [e] at h1
   rw [h1, h2, Nat.add_comm 1, Lib.replaceK_hit _ _ _ _ _ hi', Lib.replaceK_hit _ _ _ _ _ hr, e]
   simp
theorem repK_hit {old new s : List UInt8} (ho : old ≠ []) (h : old.isPrefixOf s = true) :
   Lib.replaceK old new (Lib.count s old) s = new ++ Lib.replaceK old new (Lib.count (s.drop old.length) old) (s.drop old.length) := by
 have hi : Lib.index s old = ((0 : Nat) : Int) := by
   cases s with
   | nil => rw [List.isPrefixOf_iff_prefix, List.prefix_nil] at h; exact absurd h ho
   | cons c r => rw [Lib.index, h]; rfl
 rw [Lib.count_hit ho hi, Nat.add_comm 1, Lib.replaceK_hit _ _ _ _ _ hi]
 simp
theorem replaceAll_K {old new s : List UInt8} (h : old ≠ new) : Lib.replaceAll s old new = Lib.replaceK old new (Lib.count s old) s := by
 unfold Lib.replaceAll Lib.replace Lib.replaceNum
 rw [if_neg (by simpa using h), if_pos (.inl (by omega))]
def escN : List UInt8 -> List UInt8
 | [] => []
 | c :: r => if c = 0 then 0 :: 1 :: escN r else c :: escN r
theorem escN_zero (r : List UInt8) : escN (0 :: r) = 0 :: 1 :: escN r := by rw [escN, if_pos rfl]
theorem escN_other {c : UInt8} (h : c ≠ 0) (r : List UInt8) : escN (c :: r) = c :: escN r := by rw [escN, if_neg h]
theorem escN_len : ∀ l : List UInt8, (escN l).length <= 2 * l.length
 | [] => Nat.le_refl _
 | c :: r => by
   have := escN_len r
   by_cases h : c = 0
   · subst h; rw [escN_zero]; simp; omega
   · rw [escN_other h]; simp; omega
theorem rep_esc : ∀ l : List UInt8, Lib.replaceAll l [0] [0, 1] = escN l := by
 have key : ∀ l : List UInt8, Lib.replaceK [0] [0, 1] (Lib.count l [0]) l = escN l := by
   intro l
   induction l with
   | nil => rfl
   | cons c r ih =>
     by_cases h : c = 0
     · subst h
       rw [repK_hit (by simp) (by simp [List.isPrefixOf]), escN_zero]
       simpa using ih
     · rw [repK_pass (by simp) (by simp [List.isPrefixOf, Ne.symm h]), escN_other h, ih]
 intro l
 rw [replaceAll_K (by simp), key]
theorem rep_unesc : ∀ l : List UInt8, Lib.replaceAll (escN l) [0, 1] [0] = l := by
 have key : ∀ l : List UInt8, Lib.replaceK [0, 1] [0] (Lib.count (escN l) [0, 1]) (escN l) = l := by
   intro l
   induction l with
   | nil => rfl
   | cons c r ih =>
     by_cases h : c = 0
     · subst h
       rw [escN_zero, repK_hit (by simp) (by simp [List.isPrefixOf])]
       simpa using ih
     · rw [escN_other h, repK_pass (by simp) (by simp [List.isPrefixOf, Ne.symm h]), ih]
 intro l
 rw [replaceAll_K (by simp), key]
theorem index_zz (rest : List UInt8) : ∀ l : List UInt8, Lib.index (escN l ++ 0 :: 0 :: rest) [0, 0] = ((escN l).length : Int)
 | [] => by rw [escN, List.nil_append, Lib.index]; simp [List.isPrefixOf]
 | c :: r => by
   have ih := index_zz rest r
   have hb : (((escN r).length : Int) == -1) = false := beq_eq_false_iff_ne.2 (by omega)
   by_cases h : c = 0
   · subst h
     rw [escN_zero, List.cons_append, List.cons_append, index_pass (by simp [List.isPrefixOf]), index_pass (by simp [List.isPrefixOf]), ih, hb]
     have hb2 : (((escN r).length : Int) + 1 == -1) = false := beq_eq_false_iff_ne.2 (by omega)
     simp [hb2]
   · rw [escN_other h, List.cons_append, index_pass (by simp [List.isPrefixOf, Ne.symm h]), ih, hb]
     simp
theorem index_z (b : List UInt8) : ∀ a : List UInt8, (∀ c ∈ a, c ≠ 0) -> Lib.index (a ++ 0 :: b) [0] = (a.length : Int)
 | [], _ => by rw [List.nil_append, Lib.index]; simp [List.isPrefixOf]
 | c :: r, h => by
   have ih := index_z b r (fun x hx => h x (List.mem_cons_of_mem _ hx))
   have hc : c ≠ 0 := h c (List.mem_cons_self ..)
   have hb : ((r.length : Int) == -1) = false := beq_eq_false_iff_ne.2 (by omega)
   rw [List.cons_append, index_pass (by simp [List.isPrefixOf, Ne.symm hc]), ih, hb]
   simp
theorem cut_zz (l rest : List UInt8) : Lib.cut (escN l ++ 0 :: 0 :: rest) [0, 0] = (escN l, rest, true) := by
 unfold Lib.cut
 rw [index_zz, if_pos (by omega)]
 simp
theorem cut_z {a b : List UInt8} (h : ∀ c ∈ a, c ≠ 0) : Lib.cut (a ++ 0 :: b) [0] = (a, b, true) := by
 unfold Lib.cut
 rw [index_z b a h, if_pos (by omega)]
 simp
def entryS (t : TermL) : List UInt8 := if t.kind = 3 then escN t.text ++ 0 :: 0 :: (t.type ++ 0 :: t.lang) else t.text
def entryN (t : TermL) : List UInt8 × Int := if termN t ≠ 0 then ([], termN t) else (entryS t, 0)
def candP (s : List UInt8) : Option TermL :=
 if (Lib.cut s [0, 0]).2.2 = true /\ (Lib.cut (Lib.cut s [0, 0]).2.1 [0]).2.2 = true then
   some ⟨3, Lib.replaceAll (Lib.cut s [0, 0]).1 [0, 1] [0], (Lib.cut (Lib.cut s [0, 0]).2.1 [0]).1, (Lib.cut (Lib.cut s [0, 0]).2.1 [0]).2.1⟩
 else none
def decR : List UInt8 -> Option (List UInt8 × List UInt8)
 | [] => none
 | [_] => none
 | c :: d :: r => if c = 0 then (if d = 0 then some ([], r) else (decR r).map fun x => (0 :: x.1, x.2)) else (decR (d :: r)).map fun x => (c :: x.1, x.2)
def cutR (s : List UInt8) : List UInt8 × List UInt8 := match s with
 | [] => ([], [])
 | _ => if 0 ∈ s then (s.takeWhile fun c => !(c == 0), (s.dropWhile fun c => !(c == 0)).drop 1) else ([], [])
def candR (s : List UInt8) : Option TermL := (decR s).map fun x => ⟨3, x.1, (cutR x.2).1, (cutR x.2).2⟩
theorem decR_esc (rest : List UInt8) : ∀ l : List UInt8, decR (escN l ++ 0 :: 0 :: rest) = some (l, rest)
 | [] => by rw [escN, List.nil_append, decR, if_pos rfl, if_pos rfl]
 | c :: r => by
   have ih := decR_esc rest r
   by_cases h : c = 0
   · subst h
     rw [escN_zero, List.cons_append, List.cons_append, decR, if_pos rfl, if_neg (by decide), ih]
     rfl
   · rw [escN_other h, List.cons_append]
     obtain ⟨d, t, hd⟩ : ∃ d t, escN r ++ 0 :: 0 :: rest = d :: t := List.exists_cons_of_ne_nil (by simp)
     rw [hd] at ih ⊢
     rw [decR, if_neg h, ih]
     rfl
theorem takeWhile_z {a b : List UInt8} (h : ∀ c ∈ a, c ≠ 0) : (a ++ 0 :: b).takeWhile (fun c => !(c == 0)) = a /\ (a ++ 0 :: b).dropWhile (fun c => !(c == 0)) = 0 :: b := by
 induction a with
 | nil => simp
 | cons c r ih =>
   have hc : c ≠ 0 := h c (List.mem_cons_self ..)
   obtain ⟨h1, h2⟩ := ih (fun x hx => h x (List.mem_cons_of_mem _ hx))
   rw [List.cons_append, List.takeWhile_cons_of_pos (by simpa using hc), List.dropWhile_cons_of_pos (by simpa using hc), h1, h2]
   exact ⟨rfl, rfl⟩
theorem cutR_z {a b : List UInt8} (h : ∀ c ∈ a, c ≠ 0) : cutR (a ++ 0 :: b) = (a, b) := by
 obtain ⟨d, t, hd⟩ : ∃ d t, a ++ 0 :: b = d :: t := List.exists_cons_of_ne_nil (by simp)
 obtain ⟨h1, h2⟩ := takeWhile_z (b := b) h
 have hm : (0 : UInt8) ∈ a ++ 0 :: b := by simp
 rw [hd] at h1 h2 hm ⊢
 unfold cutR
 simp only
 rw [if_pos hm, h1, h2]
 rfl
theorem iri_nul {l : List UInt8} (h : iriN l = 0) : ∀ c ∈ l, c ≠ 0 := by
 intro c hc e
 subst e
 unfold iriN at h
 by_cases hr : refN l = 0
 · unfold refN at hr
   have hb : l.any barC = true := List.any_eq_true.2 ⟨0, hc, by decide⟩
   rw [hb] at hr
   split at hr
   · cases hr
   · split at hr
     · cases hr
     · rw [if_pos rfl] at hr; cases hr
 · rw [if_pos hr] at h
   exact hr h
theorem lit_type {t : TermL} (hk : t.kind = 3) (h : termN t = 0) : ∀ c ∈ t.type, c ≠ 0 := by
 unfold termN at h
 rw [if_neg (by omega), if_pos hk] at h
 unfold litN at h
 split at h
 · cases h
 · split at h
   · cases h
   · split at h
     · next hi => exact absurd h hi
     · next hi => exact iri_nul (by simpa using hi)
theorem cand_entry {t : TermL} (hk : t.kind = 3) (h : termN t = 0) : candP (entryS t) = some t /\ candR (entryS t) = some t := by
 have ht := lit_type hk h
 have e : entryS t = escN t.text ++ 0 :: 0 :: (t.type ++ 0 :: t.lang) := by unfold entryS; rw [if_pos hk]
 rw [e]
 refine ⟨?_, ?_⟩
 · unfold candP
   rw [cut_zz]
   simp only
   rw [cut_z ht]
   simp only
   rw [if_pos ⟨trivial, trivial⟩, rep_unesc, <- hk]
 · unfold candR
   rw [decR_esc, Option.map_some]
   simp only
   rw [cutR_z ht, <- hk]
def takeN (s : List UInt8) : Option TermL -> TermL × Int
 | none => (noTerm, 170)
 | some t => if termN t = 0 /\ entryS t = s then (t, 0) else (noTerm, 170)
theorem take_cand (s : List UInt8) : takeN s (candR s) = takeN s (candP s) := by
 have kP : ∀ t, candP s = some t -> t.kind = 3 := fun t h => by
   unfold candP at h
   split at h
   · cases h; rfl
   · cases h
 have kR : ∀ t, candR s = some t -> t.kind = 3 := fun t h => by
   unfold candR at h
   obtain ⟨x, _, rfl⟩ := Option.map_eq_some_iff.1 h
   rfl
 have bad : ∀ (o : Option TermL), (∀ t, o = some t -> ¬ (termN t = 0 /\ entryS t = s)) -> takeN s o = (noTerm, 170) := fun o h => by
   cases o with
   | none => rfl
   | some t => rw [takeN, if_neg (h t rfl)]
 by_cases hp : ∃ t, candP s = some t /\ termN t = 0 /\ entryS t = s
 · obtain ⟨t, h1, h2, h3⟩ := hp
   have := (cand_entry (kP t h1) h2).2
   rw [h3] at this
   rw [this, h1]
 · by_cases hr : ∃ t, candR s = some t /\ termN t = 0 /\ entryS t = s
   · obtain ⟨t, h1, h2, h3⟩ := hr
     have := (cand_entry (kR t h1) h2).1
     rw [h3] at this
     exact absurd ⟨t, this, h2, h3⟩ hp
   · rw [bad _ (fun t h h2 => hp ⟨t, h, h2⟩), bad _ (fun t h h2 => hr ⟨t, h, h2⟩)]
def readN (kind : Int) (s : List UInt8) : TermL × Int :=
 if kind = 1 \/ kind = 2 then takeN s (some ⟨kind, s, [], []⟩) else if kind = 3 then takeN s (candP s) else (noTerm, 70)
end Go.Proofs.YtfocpjcbfbbpgaaGreatDoor
