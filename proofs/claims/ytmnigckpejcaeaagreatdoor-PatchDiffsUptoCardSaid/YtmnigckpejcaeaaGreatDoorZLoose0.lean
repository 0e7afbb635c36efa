/-
  Loose texts: blanks, ends of lines, comments: what is read of them, and of lines with such between. Plain laws. No program in sight. By an AI agent.
-/
import Derived.Test.YtmnigckpejcaeaaGreatDoorZPatch0
import Derived.Test.YtmnigckpejcaeaaGreatDoorZSort0
import Derived.Test.YtmnigckpejcaeaaGreatDoorZEach
import Derived.Test.YtmnigckpejcaeaaGreatDoorZValid
import Derived.Test.YtmnigckpejcaeaaGreatDoorZSets
namespace Go.Proofs.YtmnigckpejcaeaaGreatDoor
open Go.RowKit
set_option maxRecDepth 100000
def looseB : List UInt8 -> Bool -> Bool
 | [], _ => true
 | c :: l, b => if eolC c = true then looseB l false else if c = 35 then looseB l true else if 128 <= c.toNat \/ (b = false /\ c ≠ 32 /\ c ≠ 9) then false else looseB l b
theorem loose_low : ∀ (l : List UInt8) (b : Bool), looseB l b = true -> ∀ c ∈ l, c.toNat < 128
 | [], _, _ => fun c hc => by cases hc
 | c :: l, b, h => by
   have step : c.toNat < 128 /\ ∃ b', looseB l b' = true := by
     rw [looseB] at h
     by_cases hc : eolC c = true
     · rw [if_pos hc] at h
       refine ⟨?_, _, h⟩
       unfold eolC at hc
       rcases Bool.or_eq_true _ _ ▸ hc with h1 | h1
       · rw [beq_iff_eq.1 h1]; decide
       · rw [beq_iff_eq.1 h1]; decide
     · rw [if_neg hc] at h
       by_cases h35 : c = 35
       · rw [if_pos h35] at h
         exact ⟨by rw [h35]; decide, _, h⟩
       · rw [if_neg h35] at h
         by_cases hx : 128 <= c.toNat \/ (b = false /\ c ≠ 32 /\ c ≠ 9)
         · rw [if_pos hx] at h; cases h
         · rw [if_neg hx] at h
           exact ⟨by omega, _, h⟩
   obtain ⟨h1, b', h2⟩ := step
   intro x hx
   rcases List.mem_cons.1 hx with rfl | hx
   · exact h1
   · exact loose_low l b' h2 x hx
end Go.Proofs.YtmnigckpejcaeaaGreatDoor
namespace Go.Proofs.YtmnigckpejcaeaaGreatDoor
open Go.RowKit
set_option maxRecDepth 100000
theorem utf_low (l : List UInt8) (h : ∀ c ∈ l, c.toNat < 128) : ∀ (k i : Nat), l.length - i <= k -> utfF l i = -1
 | k, i, hk => by
   by_cases hl : l.length <= i
   · exact utfF_end hl
   match k, hk with
   | 0, hk => omega
   | k + 1, hk =>
     have hg : l.drop i = l[i]'(by omega) :: l.drop (i + 1) := List.drop_eq_getElem_cons (by omega)
     have hn := nextAt_low hg (h _ (List.getElem_mem _))
     rw [utfF_go (by omega) hn (by decide)]
     exact utf_low l h k (i + 1) (by omega)
theorem loose_blk (l : List UInt8) : ∀ (k i : Nat), l.length - i <= k -> looseB (l.drop i) false = true -> (∀ c ∈ l.drop i, eolC c = false) -> l.length <= blkF l i \/ (blkF l i < l.length /\ l.getD (blkF l i) 0 = 35 /\ ∀ c ∈ l.drop (blkF l i), c.toNat < 128)
 | k, i, hk, h, he => by
   by_cases hl : l.length <= i
   · exact .inl (by rw [blkF_end hl]; exact hl)
   match k, hk with
   | 0, hk => omega
   | k + 1, hk =>
     have hg : l.drop i = l[i]'(by omega) :: l.drop (i + 1) := List.drop_eq_getElem_cons (by omega)
     have hd : l.getD i 0 = l[i]'(by omega) := by simp [List.getD, show i < l.length by omega]
     rw [hg] at he
     have hc := he _ (List.mem_cons_self ..)
     by_cases hb : l.getD i 0 = 32 \/ l.getD i 0 = 9
     · rw [blkF_go (by omega) hb]
       refine loose_blk l k (i + 1) (by omega) ?_ (fun c hx => he c (List.mem_cons_of_mem _ hx))
       rw [hg, looseB, if_neg (by rw [hc]; simp)] at h
       rw [hd] at hb
       rw [if_neg (by rcases hb with hb | hb <;> rw [hb] <;> decide)] at h
       by_cases hx : 128 <= (l[i]'(by omega)).toNat \/ ((false : Bool) = false /\ l[i]'(by omega) ≠ 32 /\ l[i]'(by omega) ≠ 9)
       · rw [if_pos hx] at h; cases h
       · rw [if_neg hx] at h; exact h
     · rw [blkF_stop (by omega) hb]
       rw [hd] at hb
       refine .inr ⟨by omega, ?_, fun c hx => loose_low _ _ h c hx⟩
       rw [hg, looseB, if_neg (by rw [hc]; simp)] at h
       by_cases h35 : l[i]'(by omega) = 35
       · rw [hd]; exact h35
       · rw [if_neg h35, if_pos (.inr ⟨rfl, fun e => hb (.inl e), fun e => hb (.inr e)⟩)] at h
         cases h
theorem rest_loose {l : List UInt8} {i : Nat} (h : looseB (l.drop i) false = true) (he : ∀ c ∈ l.drop i, eolC c = false) : restF' l i = none := by
 unfold restF'
 rcases loose_blk l l.length i (by omega) h he with h1 | ⟨h1, h2, h3⟩
 · rw [if_pos h1]
 · have hu := utf_low _ h3 (l.drop (blkF l i)).length 0 (by omega)
   rw [if_neg (by omega), if_neg (by rw [h2]; simp), hu, if_neg (by decide)]
end Go.Proofs.YtmnigckpejcaeaaGreatDoor
namespace Go.Proofs.YtmnigckpejcaeaaGreatDoor
open Go.RowKit
set_option maxRecDepth 100000
theorem tail_label9 {l t rest : List UInt8} {b : Nat} (hd : l.drop b = t ++ 9 :: rest) : ∀ (k i e : Nat) (sc : List Int), t.length - i <= k -> i <= t.length -> scalF t i = some sc -> okRest sc = true -> (sc = [] -> e = b + t.length) -> tailF l (b + i) e = b + t.length
 | k, i, e, sc, hk, hi, hs, ho, he => by
   have hdi : l.drop (b + i) = t.drop i ++ 9 :: rest := by rw [<- List.drop_drop, hd, List.drop_append_of_le_length hi]
   by_cases hend : i = t.length
   · subst hend
     rw [scalF_end (Nat.le_refl _)] at hs
     cases hs
     rw [List.drop_length, List.nil_append] at hdi
     have hq : nextAt l ((b + t.length : Nat) : Int) = (9, 1) := by
       rw [nextAt_nat, hdi, nextP_1 (by decide)]; rfl
     rw [tailF_stop hq (.inr ⟨by decide, by decide⟩)]
     exact he rfl
   obtain ⟨v, n, hq⟩ : ∃ v n, nextAt t (i : Int) = (v, n) := ⟨_, _, rfl⟩
   by_cases hn : n = 0
   · subst hn
     rw [scalF_none (by omega) hq] at hs
     cases hs
   have hq2 : nextAt l ((b + i : Nat) : Int) = (v, n) := by
     rw [nextAt_nat] at hq ⊢
     rw [hdi]
     exact nextP_more _ hq hn
   have hbd := (nextAt_bound hq hn).2.1
   have hbd2 : i + n <= t.length := by omega
   rw [scalF_go (by omega) hq hn] at hs
   obtain ⟨sc', h1, rfl⟩ := Option.map_eq_some_iff.1 hs
   rw [okRest, Bool.and_eq_true] at ho
   obtain ⟨ho1, ho2⟩ := ho
   have hgo : ¬ (n = 0 \/ (v ≠ 46 /\ followB v = false)) := by
     rintro (h | ⟨h, h2⟩)
     · exact hn h
     · rw [h2, show (v == 46) = false from beq_eq_false_iff_ne.2 h] at ho1
       cases ho1
   rw [tailF_go hq2 hgo, Nat.add_assoc]
   match k, hk with
   | 0, hk => omega
   | k + 1, hk =>
     refine tail_label9 hd k (i + n) _ sc' (by omega) hbd2 h1 ho2 (fun hnil => ?_)
     subst hnil
     have hfull : i + n = t.length := by
       by_cases hx : i + n = t.length
       · exact hx
       · exfalso
         obtain ⟨v2, n2, hq3⟩ : ∃ v m, nextAt t ((i + n : Nat) : Int) = (v, m) := ⟨_, _, rfl⟩
         by_cases hn2 : n2 = 0
         · subst hn2; rw [scalF_none (by omega) hq3] at h1; cases h1
         · rw [scalF_go (by omega) hq3 hn2] at h1
           cases h4 : scalF t (i + n + n2) with
           | none => rw [h4] at h1; cases h1
           | some t => rw [h4] at h1; cases h1
     split
     · next hv =>
       subst hv
       rw [show followB 46 = false by decide] at ho1
       cases ho1
     · omega
theorem run_label9 {l t rest : List UInt8} {b : Nat} (hd : l.drop b = t ++ 9 :: rest) (hw : wholeR labelB t = true) : runF labelB l (b : Nat) = t.length /\ t.length ≠ 0 := by
 unfold wholeR at hw
 split at hw
 · next v sc hs =>
   rw [Bool.and_eq_true] at hw
   have hne : 0 < t.length := by
     rcases t with _ | ⟨c, r⟩
     · rw [scalF_end (by simp)] at hs; cases hs
     · simp
   obtain ⟨v', n, hq⟩ : ∃ v n, nextAt t ((0 : Nat) : Int) = (v, n) := ⟨_, _, rfl⟩
   have hn : n ≠ 0 := fun e => by subst e; rw [scalF_none hne hq] at hs; cases hs
   rw [scalF_go hne hq hn] at hs
   obtain ⟨sc', h1, h2⟩ := Option.map_eq_some_iff.1 hs
   cases h2
   have hbd := (nextAt_bound hq hn).2.1
   have hq2 : nextAt l ((b : Nat) : Int) = (v, n) := by
     rw [nextAt_nat] at hq ⊢
     rw [hd]
     exact nextP_more _ hq hn
   rw [runF_go hq2 (by rintro (h | h); exact hn h; rw [hw.1] at h; cases h)]
   have := tail_label9 hd t.length (0 + n) (b + n) sc (by omega) (by omega) h1 hw.2 (fun hnil => by
     subst hnil
     by_cases hx : 0 + n = t.length
     · omega
     · exfalso
       obtain ⟨v2, n2, hq3⟩ : ∃ v m, nextAt t ((0 + n : Nat) : Int) = (v, m) := ⟨_, _, rfl⟩
       by_cases hn2 : n2 = 0
       · subst hn2; rw [scalF_none (by omega) hq3] at h1; cases h1
       · rw [scalF_go (by omega) hq3 hn2] at h1
         cases h4 : scalF t (0 + n + n2) with
         | none => rw [h4] at h1; cases h1
         | some t => rw [h4] at h1; cases h1)
   rw [Nat.zero_add] at this
   rw [this]
   omega
 · cases hw
theorem behind_text9 {t : TermL} (ht : litN t = 0) (hk : t.kind = 3) {l rest : List UInt8} {e : Nat} (hd : l.drop e = (if t.lang ≠ [] then 64 :: t.lang else if t.type ≠ plainT then 94 :: 94 :: angF t.type else []) ++ 9 :: rest) :
   behindF l t.text e = .inl (t, e + (if t.lang ≠ [] then 64 :: t.lang else if t.type ≠ plainT then 94 :: 94 :: angF t.type else []).length) := by
 obtain ⟨h1, h2, h3, h4⟩ := lit_cases ht
 obtain ⟨k, tx, ty, la⟩ := t
 simp only at hk h1 h2 h3 h4 hd ⊢
 subst hk
 rcases h4 with ⟨rfl, hty⟩ | ⟨hl, rfl, hlen, htag, hlow⟩
 · rw [if_neg (by simp)] at hd ⊢
   by_cases hp : ty = plainT
   · subst hp
     rw [if_neg (by simp)] at hd ⊢
     obtain ⟨_, g2, _⟩ := drop_head (show l.drop e = 9 :: rest from hd)
     unfold behindF
     rw [g2, if_neg (by decide), if_neg (by rintro ⟨h, _⟩; cases h)]
     rfl
   · rw [if_pos hp] at hd ⊢
     obtain ⟨_, g2, g3⟩ := drop_head (show l.drop e = 94 :: (94 :: angF ty ++ 9 :: rest) from hd)
     obtain ⟨_, g5, g6⟩ := drop_head (show l.drop (e + 1) = 94 :: (angF ty ++ 9 :: rest) from g3)
     unfold behindF
     rw [g2, g5, if_neg (by decide), if_pos ⟨rfl, rfl⟩, iriAt_ang g6 h3]
     simp only
     rw [if_neg hty]
     simp
     omega
 · rw [if_pos hl] at hd ⊢
   obtain ⟨g1, g2, g3⟩ := drop_head (show l.drop e = 64 :: (la ++ 9 :: rest) from hd)
   have hE := tagE_plain (l := l) (b := 9 :: rest) (fun c t h => by cases h; decide) la (e + 1) (by omega) g3 (tagF_chars htag)
   unfold behindF
   rw [g2, if_pos rfl]
   unfold tagAt
   rw [hE, cutF_of g3, if_neg (by omega), if_neg (by rw [htag]; simp), hlow]
   simp
   omega
theorem termAt_text9 {t : TermL} (ht : termN t = 0) {l rest : List UInt8} {i : Nat} (hd : l.drop i = textF t ++ 9 :: rest) : termAt l i = .inl (t, i + (textF t).length) := by
 rcases term_cases ht with ⟨hk, h1, h2, h3⟩ | ⟨hk, h1, h2, h3, h4⟩ | ⟨hk, h1⟩
 · have e : textF t = angF t.text := by unfold textF; rw [if_pos hk]
   rw [e] at hd ⊢
   have hi := iriAt_ang hd h3
   obtain ⟨_, g2, _⟩ := drop_head (show l.drop i = 60 :: ((escF 2 t.text 0 ++ [62]) ++ 9 :: rest) from hd)
   unfold termAt
   rw [g2, if_pos rfl, hi]
   obtain ⟨k, tx, ty, la⟩ := t
   simp only at hk h1 h2 ⊢
   rw [hk, h1, h2]
 · have e : textF t = 95 :: 58 :: t.text := by unfold textF; rw [if_neg (by omega), if_pos hk]
   rw [e] at hd ⊢
   obtain ⟨g1, g2, g3⟩ := drop_head (show l.drop i = 95 :: (58 :: t.text ++ 9 :: rest) from hd)
   obtain ⟨g4, g5, g6⟩ := drop_head (show l.drop (i + 1) = 58 :: (t.text ++ 9 :: rest) from g3)
   obtain ⟨hr, hr0⟩ := run_label9 g6 h4
   unfold termAt
   rw [g2, if_neg (by decide), if_neg (by decide), if_pos rfl]
   unfold blankAt
   rw [g5, if_neg (by simp), show i + 2 = i + 1 + 1 by omega, hr, if_neg hr0, if_neg (by omega), cutF_of g6]
   obtain ⟨k, tx, ty, la⟩ := t
   simp only at hk h1 h2 ⊢
   rw [hk, h1, h2]
   simp
   omega
 · have e : textF t = 34 :: (escF 1 t.text 0 ++ (34 :: (if t.lang ≠ [] then 64 :: t.lang else if t.type ≠ plainT then 94 :: 94 :: angF t.type else []))) := by
     unfold textF; rw [if_neg (by omega), if_neg (by omega)]
   rw [e] at hd ⊢
   obtain ⟨hl1, hl2, hl3, _⟩ := lit_cases h1
   obtain ⟨g1, g2, g3⟩ := drop_head (show l.drop i = 34 :: ((escF 1 t.text 0 ++ (34 :: (if t.lang ≠ [] then 64 :: t.lang else if t.type ≠ plainT then 94 :: 94 :: angF t.type else []))) ++ 9 :: rest) from hd)
   rw [List.append_assoc, List.cons_append] at g3
   have hc := close_esc t.text t.text.length 0 (i + 1) (by omega) g3
   have g4 := drop_more g3
   obtain ⟨g5, g6, g7⟩ := drop_head g4
   rw [closeF_quote g5 g6] at hc
   unfold termAt
   rw [g2, if_neg (by decide), if_pos rfl]
   unfold litAt
   rw [hc]
   simp only
   rw [cutF_of g3, unesc_of_esc 1 hl2]
   simp only
   rw [if_neg (by omega), behind_text9 h1 hk g7]
   simp
   omega
theorem termAt_sep {t : TermL} (ht : termN t = 0) {l rest : List UInt8} {i : Nat} {d : UInt8} (hdd : d = 32 \/ d = 9) (hd : l.drop i = textF t ++ d :: rest) : termAt l i = .inl (t, i + (textF t).length) := by
 rcases hdd with rfl | rfl
 · exact termAt_text ht hd
 · exact termAt_text9 ht hd
theorem termAt_iri {t : TermL} (ht : termN t = 0) (hk : t.kind = 1) {l rest : List UInt8} {i : Nat} (hd : l.drop i = textF t ++ rest) : termAt l i = .inl (t, i + (textF t).length) := by
 rcases term_cases ht with ⟨_, h1, h2, h3⟩ | ⟨hk2, _⟩ | ⟨hk2, _⟩
 · have e : textF t = angF t.text := by unfold textF; rw [if_pos hk]
   rw [e] at hd ⊢
   have hi := iriAt_ang hd h3
   obtain ⟨_, g2, _⟩ := drop_head (show l.drop i = 60 :: ((escF 2 t.text 0 ++ [62]) ++ rest) from hd)
   unfold termAt
   rw [g2, if_pos rfl, hi]
   obtain ⟨k, tx, ty, la⟩ := t
   simp only at hk h1 h2 ⊢
   rw [hk, h1, h2]
 · omega
 · omega
def blankC (c : UInt8) : Bool := c == 32 || c == 9
theorem blank_iff {c : UInt8} : blankC c = true ↔ c = 32 \/ c = 9 := by unfold blankC; rw [Bool.or_eq_true, beq_iff_eq, beq_iff_eq]
theorem blk_many {l b : List UInt8} {c : UInt8} (hc : ¬ (c = 32 \/ c = 9)) : ∀ (s : List UInt8) (i : Nat), (∀ x ∈ s, blankC x = true) -> l.drop i = s ++ c :: b -> blkF l i = i + s.length
 | [], i, _, hd => by rw [blk_none (show l.drop i = c :: b from hd) hc]; rfl
 | x :: s, i, hs, hd => by
   obtain ⟨h1, h2, h3⟩ := drop_head (show l.drop i = x :: (s ++ c :: b) from hd)
   rw [blkF_go h1 (by rw [h2]; exact blank_iff.1 (hs x (List.mem_cons_self ..))), blk_many hc s (i + 1) (fun y hy => hs y (List.mem_cons_of_mem _ hy)) h3, List.length_cons]
   omega
theorem slot_sep {t : TermL} (ht : termN t = 0) {l s b : List UInt8} {i : Nat} {c : UInt8} {signs : List UInt8} (hsg : ∀ d r, textF t = d :: r -> d ∈ signs) (hs : ∀ x ∈ s, blankC x = true) (hk : t.kind ≠ 1 -> s ≠ []) (hd : l.drop i = textF t ++ (s ++ c :: b)) (hc : ¬ (c = 32 \/ c = 9)) :
   slotF l i signs = .inl (t, i + (textF t).length + s.length) /\ l.drop (i + (textF t).length + s.length) = c :: b := by
 obtain ⟨d, r, he, _⟩ := text_head ht
 have h1 : termAt l i = .inl (t, i + (textF t).length) := by
   by_cases hk1 : t.kind = 1
   · exact termAt_iri ht hk1 hd
   · cases s with
     | nil => exact absurd rfl (hk hk1)
     | cons x s => exact termAt_sep ht (blank_iff.1 (hs x (List.mem_cons_self ..))) hd
 have hm := drop_more hd
 have hb := blk_many hc s _ hs hm
 refine ⟨?_, drop_more hm⟩
 rw [he, List.cons_append] at hd
 obtain ⟨g1, g2, _⟩ := drop_head hd
 unfold slotF
 rw [g2, if_pos ⟨g1, hsg d r he⟩, h1]
 simp only
 rw [hb]
end Go.Proofs.YtmnigckpejcaeaaGreatDoor
namespace Go.Proofs.YtmnigckpejcaeaaGreatDoor
open Go.RowKit
set_option maxRecDepth 100000
def sepF (bl : List UInt8) (t : TermL) : List UInt8 := if t.kind ≠ 1 /\ bl = [] then [32] else []
def putT (bl : List UInt8) (t : TermL) : List UInt8 := bl ++ (textF t ++ sepF bl t)
def looseL (bl : List UInt8) (q : QuadL) : List UInt8 := putT bl q.s ++ (putT bl q.p ++ (putT bl q.o ++ ((if q.g = noTerm then [] else putT bl q.g) ++ (bl ++ [46]))))
theorem sep_blank {bl : List UInt8} (hb : ∀ x ∈ bl, blankC x = true) (t : TermL) : ∀ x ∈ sepF bl t ++ bl, blankC x = true := by
 intro x hx
 rcases List.mem_append.1 hx with hx | hx
 · unfold sepF at hx
   split at hx
   · rw [List.mem_singleton.1 hx]; decide
   · cases hx
 · exact hb x hx
theorem sep_some {bl : List UInt8} {t : TermL} (hk : t.kind ≠ 1) : sepF bl t ++ bl ≠ [] := by
 unfold sepF
 by_cases h : bl = []
 · rw [if_pos ⟨hk, h⟩]; simp
 · intro e
   exact h (List.append_eq_nil_iff.1 e).2
theorem head_ok {t : TermL} (ht : termN t = 0) : ∃ c r, textF t = c :: r /\ ¬ (c = 32 \/ c = 9) /\ c ≠ 35 /\ c ≠ 46 := by
 obtain ⟨c, r, h, h2⟩ := text_head ht
 refine ⟨c, r, h, ?_⟩
 rcases h2 with ⟨_, rfl⟩ | ⟨_, rfl⟩ | ⟨_, rfl⟩ <;> decide
theorem slot_sep' {t : TermL} (ht : termN t = 0) {l s Z : List UInt8} {i : Nat} {signs : List UInt8} (hsg : ∀ d r, textF t = d :: r -> d ∈ signs) (hs : ∀ x ∈ s, blankC x = true) (hk : t.kind ≠ 1 -> s ≠ []) (hd : l.drop i = textF t ++ (s ++ Z)) (hz : ∃ c b, Z = c :: b /\ ¬ (c = 32 \/ c = 9)) :
   slotF l i signs = .inl (t, i + (textF t).length + s.length) /\ l.drop (i + (textF t).length + s.length) = Z := by
 obtain ⟨c, b, rfl, hc⟩ := hz
 exact slot_sep ht hsg hs hk hd hc
theorem head_of {t : TermL} (ht : termN t = 0) (y : List UInt8) : ∃ c b, textF t ++ y = c :: b /\ ¬ (c = 32 \/ c = 9) := by
 obtain ⟨c, r, e, n, _⟩ := head_ok ht
 exact ⟨c, r ++ y, by rw [e]; rfl, n⟩
theorem stmt_loose {q : QuadL} (h : quadN q = 0) {bl l tail : List UInt8} {i : Nat} (hb : ∀ x ∈ bl, blankC x = true)
   (hd : l.drop i = textF q.s ++ ((sepF bl q.s ++ bl) ++ (textF q.p ++ ((sepF bl q.p ++ bl) ++ (textF q.o ++ ((sepF bl q.o ++ bl) ++ ((if q.g = noTerm then [] else textF q.g ++ (sepF bl q.g ++ bl)) ++ 46 :: tail))))))) :
   ∃ n, stmtF l i = .inl (q, n) /\ l.drop n = tail := by
 obtain ⟨h1, h2, h3, h4, h5, h6⟩ := line_cases h
 have ks : ∀ d r, textF q.s = d :: r -> d ∈ ([60, 95] : List UInt8) := fun d r e => by
   obtain ⟨c, r', e', h'⟩ := text_head h2
   rw [e'] at e; cases e
   rcases h' with ⟨_, rfl⟩ | ⟨_, rfl⟩ | ⟨hk, _⟩
   · simp
   · simp
   · omega
 have kp : ∀ d r, textF q.p = d :: r -> d ∈ ([60] : List UInt8) := fun d r e => by
   obtain ⟨c, r', e', h'⟩ := text_head h4
   rw [e'] at e; cases e
   rcases h' with ⟨_, rfl⟩ | ⟨hk, _⟩ | ⟨hk, _⟩
   · simp
   · omega
   · omega
 have ko : ∀ d r, textF q.o = d :: r -> d ∈ ([60, 95, 34] : List UInt8) := fun d r e => by
   obtain ⟨c, r', e', h'⟩ := text_head h5
   rw [e'] at e; cases e
   rcases h' with ⟨_, rfl⟩ | ⟨_, rfl⟩ | ⟨_, rfl⟩ <;> simp
 obtain ⟨s1, d1⟩ := slot_sep' h2 ks (sep_blank hb q.s) (fun hk => sep_some hk) hd (head_of h4 _)
 obtain ⟨s2, d2⟩ := slot_sep' h4 kp (sep_blank hb q.p) (fun hk => sep_some hk) d1 (head_of h5 _)
 obtain ⟨k, p, o, g⟩ := q
 simp only at *
 rcases h6 with rfl | ⟨hg, hgt⟩
 · rw [if_pos rfl, List.nil_append] at d2
   obtain ⟨s3, d3⟩ := slot_sep' h5 ko (sep_blank hb o) (fun hk => sep_some hk) d2 ⟨46, tail, rfl, by decide⟩
   obtain ⟨_, g3, g4⟩ := drop_head d3
   refine ⟨_, ?_, g4⟩
   unfold stmtF
   rw [s1]; simp only
   rw [s2]; simp only
   rw [s3]; simp only
   rw [g3, if_pos rfl]
 · have hne : g ≠ noTerm := fun e => by rw [e] at hg; simp [noTerm] at hg
   obtain ⟨cg, rg, eg, ng, _, ng2⟩ := head_ok hgt
   rw [if_neg hne] at d2
   rw [List.append_assoc (textF g)] at d2
   obtain ⟨s3, d3⟩ := slot_sep' h5 ko (sep_blank hb o) (fun hk => sep_some hk) d2 (head_of hgt _)
   have kg : ∀ d r, textF g = d :: r -> d ∈ ([60, 95] : List UInt8) := fun d r e => by
     obtain ⟨c, r', e', h'⟩ := text_head hgt
     rw [e'] at e; cases e
     rcases h' with ⟨_, rfl⟩ | ⟨_, rfl⟩ | ⟨hk, _⟩
     · simp
     · simp
     · omega
   obtain ⟨s4, d4⟩ := slot_sep' hgt kg (sep_blank hb g) (fun hk => sep_some hk) d3 ⟨46, tail, rfl, by decide⟩
   obtain ⟨_, g3, g4⟩ := drop_head d4
   rw [eg, List.cons_append] at d3
   obtain ⟨_, g5, _⟩ := drop_head d3
   refine ⟨_, ?_, g4⟩
   unfold stmtF
   rw [s1]; simp only
   rw [s2]; simp only
   rw [s3]; simp only
   rw [g5, if_neg ng2, s4]; simp only
   rw [g3, if_pos rfl]
theorem loose_line {q : QuadL} (h : quadN q = 0) {bl g : List UInt8} (hb : ∀ x ∈ bl, blankC x = true) (hg : looseB g false = true) (he : ∀ c ∈ g, eolC c = false) : lineAt (looseL bl q ++ g) = .inl (some q) := by
 obtain ⟨_, h2, _, _, _, _⟩ := line_cases h
 have hd : (looseL bl q ++ g).drop bl.length = textF q.s ++ ((sepF bl q.s ++ bl) ++ (textF q.p ++ ((sepF bl q.p ++ bl) ++ (textF q.o ++ ((sepF bl q.o ++ bl) ++ ((if q.g = noTerm then [] else textF q.g ++ (sepF bl q.g ++ bl)) ++ 46 :: g)))))) := by
   have e : looseL bl q ++ g = bl ++ (textF q.s ++ ((sepF bl q.s ++ bl) ++ (textF q.p ++ ((sepF bl q.p ++ bl) ++ (textF q.o ++ ((sepF bl q.o ++ bl) ++ ((if q.g = noTerm then [] else textF q.g ++ (sepF bl q.g ++ bl)) ++ 46 :: g))))))) := by
     unfold looseL putT
     split <;> simp [List.append_assoc]
   rw [e, List.drop_left]
 obtain ⟨n, hs, ht⟩ := stmt_loose h hb hd
 obtain ⟨c, r, ec, nc, n35, _⟩ := head_ok h2
 rw [ec, List.cons_append] at hd
 have hk : blkF (looseL bl q ++ g) 0 = bl.length := by
   have hd0 : (looseL bl q ++ g).drop 0 = bl ++ (looseL bl q ++ g).drop bl.length := by
     rw [List.drop_zero]
     have : looseL bl q ++ g = bl ++ (looseL bl q ++ g).drop bl.length := by
       have e2 : ∃ y, looseL bl q ++ g = bl ++ y := by unfold looseL putT; simp only [List.append_assoc]; exact ⟨_, rfl⟩
       obtain ⟨y, hy⟩ := e2
       rw [hy, List.drop_left]
     exact this
   rw [hd] at hd0
   rw [blk_many nc bl 0 hb hd0]; omega
 obtain ⟨g1, g2, _⟩ := drop_head hd
 unfold lineAt
 rw [hk, g2, if_pos ⟨g1, n35⟩, hs]
 simp only
 rw [rest_loose (by rw [ht]; exact hg) (by rw [ht]; exact he)]
end Go.Proofs.YtmnigckpejcaeaaGreatDoor
namespace Go.Proofs.YtmnigckpejcaeaaGreatDoor
open Go.RowKit
set_option maxRecDepth 100000
def pLine (s : List UInt8) : Option (Bool × Nat × QuadL) ⊕ (Nat × Int) :=
 if s.length <= blkF s 0 then .inl none
 else if s.getD (blkF s 0) 0 = 35 then (match lineAt (s.drop (blkF s 0)) with
   | .inr f => .inr (blkF s 0 + f.1, f.2)
   | .inl _ => .inl none)
 else if s.getD (blkF s 0) 0 = 45 \/ s.getD (blkF s 0) 0 = 43 then (match lineAt (s.drop (blkF s 0 + 1)) with
   | .inr f => .inr (blkF s 0 + 1 + f.1, f.2)
   | .inl none => .inr (s.length, 90)
   | .inl (some q) => .inl (some (s.getD (blkF s 0) 0 == 43, blkF s 0, q)))
 else .inr (blkF s 0, 90)
def pStep (st : (List QuadL × List QuadL) ⊕ (Nat × Int)) (x : Nat × List UInt8) : (List QuadL × List QuadL) ⊕ (Nat × Int) := match st with
 | .inr f => .inr f
 | .inl (m, p) => match pLine x.2 with
   | .inr f => .inr (x.1 + f.1, f.2)
   | .inl none => .inl (m, p)
   | .inl (some (b, k, q)) => if q ∈ m \/ q ∈ p then .inr (x.1 + k, 230) else if b = true then .inl (m, p ++ [q]) else .inl (m ++ [q], p)
def pRead (pre : List (Nat × List UInt8)) : (List QuadL × List QuadL) ⊕ (Nat × Int) := pre.foldl pStep (.inl ([], []))
def pParse (l : List UInt8) : (List QuadL × List QuadL) ⊕ (Nat × Int) := match pRead (linesL l 0) with
 | .inr f => .inr f
 | .inl (m, p) => .inl (setQ m, setQ p)
theorem pRead_snoc (pre : List (Nat × List UInt8)) (x : Nat × List UInt8) : pRead (pre ++ [x]) = pStep (pRead pre) x := by unfold pRead; rw [List.foldl_append]; rfl
theorem pStep_stuck : ∀ (r : List (Nat × List UInt8)) (f : Nat × Int), r.foldl pStep (.inr f) = .inr f
 | [], _ => rfl
 | _ :: r, f => pStep_stuck r f
theorem pRead_prefix {pre L : List (Nat × List UInt8)} {f : Nat × Int} (h : pRead pre = .inr f) (hp : pre <+: L) : pRead L = .inr f := by
 obtain ⟨r, rfl⟩ := hp
 have : pRead (pre ++ r) = r.foldl pStep (pRead pre) := by unfold pRead; rw [List.foldl_append]
 rw [this, h, pStep_stuck]
def pRow (c : UInt8) (q : QuadL) : List UInt8 := c :: 32 :: lineF q
def pText (m p : List QuadL) : List UInt8 := m.flatMap (fun q => pRow 45 q ++ [10]) ++ p.flatMap (fun q => pRow 43 q ++ [10])
theorem line_led {q : QuadL} (h : quadN q = 0) : lineAt (32 :: lineF q) = .inl (some q) := by
 have hl := loose_line h (bl := [32]) (g := []) (by decide) (by rfl) (by simp)
 rw [List.append_nil] at hl
 have e : looseL [32] q = 32 :: lineF q := by
   have hs : ∀ t : TermL, sepF [32] t = [] := fun t => by unfold sepF; rw [if_neg (by simp)]
   have hp : ∀ t : TermL, putT [32] t = 32 :: textF t := fun t => by unfold putT; rw [hs]; simp
   rw [lineF_text h]
   unfold looseL
   rw [hp, hp, hp, hp]
   by_cases hg : q.g = noTerm
   · rw [if_pos hg, if_pos hg]; simp
   · rw [if_neg hg, if_neg hg]; simp
 rw [e] at hl
 exact hl
theorem blkF_now {l : List UInt8} {i : Nat} (h : i < l.length) (h1 : l.getD i 0 ≠ 32) (h2 : l.getD i 0 ≠ 9) : blkF l i = i := by
 rw [blkF, dif_neg (by omega), if_neg (by rintro (h | h) <;> contradiction)]
theorem pLine_row {q : QuadL} (h : quadN q = 0) : pLine (pRow 45 q) = .inl (some (false, 0, q)) /\ pLine (pRow 43 q) = .inl (some (true, 0, q)) := by
 have key : ∀ c : UInt8, c ≠ 32 -> c ≠ 9 -> blkF (pRow c q) 0 = 0 := fun c h1 h2 => blkF_now (by unfold pRow; simp) h1 h2
 have hl := line_led h
 refine ⟨?_, ?_⟩
 · unfold pLine
   rw [key 45 (by decide) (by decide), if_neg (by unfold pRow; simp), if_neg (show ¬ (pRow 45 q).getD 0 0 = 35 from (by decide : ¬ (45 : UInt8) = 35)), if_pos (.inl rfl), show (pRow 45 q).drop (0 + 1) = 32 :: lineF q from rfl, hl]
   rfl
 · unfold pLine
   rw [key 43 (by decide) (by decide), if_neg (by unfold pRow; simp), if_neg (show ¬ (pRow 43 q).getD 0 0 = 35 from (by decide : ¬ (43 : UInt8) = 35)), if_pos (.inr rfl), show (pRow 43 q).drop (0 + 1) = 32 :: lineF q from rfl, hl]
   rfl
theorem eol_row {c : UInt8} (hc : eolC c = false) {q : QuadL} (h : quadN q = 0) : ∀ x ∈ pRow c q, eolC x = false := by
 intro x hx
 rcases List.mem_cons.1 hx with rfl | hx
 · exact hc
 rcases List.mem_cons.1 hx with rfl | hx
 · decide
 exact eol_line h x hx
theorem lines_rows {l : List UInt8} {c : UInt8} (hc : eolC c = false) : ∀ (qs : List QuadL) (i : Nat) (rest : List UInt8), (∀ q ∈ qs, quadN q = 0) -> l.drop i = qs.flatMap (fun q => pRow c q ++ [10]) ++ rest -> i <= l.length ->
   ∃ (xs : List (Nat × List UInt8)) (j : Nat), linesL l i = xs ++ linesL l j /\ l.drop j = rest /\ j <= l.length /\ xs.map (·.2) = qs.map (pRow c)
 | [], i, rest, _, hd, hi => ⟨[], i, rfl, by simpa using hd, hi, rfl⟩
 | q :: qs, i, rest, hq, hd, hi => by
   have h0 := hq q (List.mem_cons_self ..)
   have hd2 : l.drop i = pRow c q ++ 10 :: (qs.flatMap (fun q => pRow c q ++ [10]) ++ rest) := by rw [hd]; simp
   have he := eolF_plain (d := 10) (by decide) (pRow c q) i hd2 (eol_row hc h0)
   have hlt : i + (pRow c q).length < l.length := by
     have := congrArg List.length hd2
     simp at this
     omega
   obtain ⟨_, _, hd3⟩ := drop_head (drop_more hd2)
   obtain ⟨xs, j, h1, h2, h3, h4⟩ := lines_rows hc qs (i + (pRow c q).length + 1) rest (fun x hx => hq x (List.mem_cons_of_mem _ hx)) hd3 (by omega)
   refine ⟨(i, cutF l i (eolF l i)) :: xs, j, ?_, h2, h3, ?_⟩
   · rw [linesL_step (by omega), he, h1]; rfl
   · rw [List.map_cons, h4, List.map_cons, he, cutF_of hd2]
theorem pFold_rows {b : Bool} {c : UInt8} (hc : c = if b = true then 43 else 45) : ∀ (qs : List QuadL) (xs : List (Nat × List UInt8)) (m p : List QuadL), (∀ q ∈ qs, quadN q = 0) -> xs.map (·.2) = qs.map (pRow c) -> qs.Nodup -> (∀ q ∈ qs, q ∉ m /\ q ∉ p) ->
   xs.foldl pStep (.inl (m, p)) = .inl (if b = true then (m, p ++ qs) else (m ++ qs, p))
 | [], xs, m, p, _, hx, _, _ => by
   obtain rfl := List.map_eq_nil_iff.1 hx
   cases b <;> simp
 | q :: qs, xs, m, p, hq, hx, hn, hm => by
   obtain ⟨x, xs, rfl⟩ : ∃ x r, xs = x :: r := by
     cases xs with
     | nil => cases hx
     | cons x r => exact ⟨x, r, rfl⟩
   rw [List.map_cons, List.map_cons] at hx
   obtain ⟨e1, e2⟩ := List.cons.inj hx
   have h0 := hq q (List.mem_cons_self ..)
   have hmq := hm q (List.mem_cons_self ..)
   obtain ⟨hn1, hn2⟩ := List.nodup_cons.1 hn
   have hs : pStep (.inl (m, p)) x = .inl (if b = true then (m, p ++ [q]) else (m ++ [q], p)) := by
     unfold pStep
     simp only [e1]
     cases b with
     | true =>
       rw [hc, if_pos rfl, (pLine_row h0).2]
       simp only
       rw [if_neg (fun h => h.elim hmq.1 hmq.2)]
       simp
     | false =>
       rw [hc, if_neg (by decide), (pLine_row h0).1]
       simp only
       rw [if_neg (fun h => h.elim hmq.1 hmq.2)]
       simp
   rw [List.foldl_cons, hs]
   cases b with
   | true =>
     have := pFold_rows hc qs xs m (p ++ [q]) (fun x hx => hq x (List.mem_cons_of_mem _ hx)) e2 hn2 (fun y hy => ⟨(hm y (List.mem_cons_of_mem _ hy)).1, fun h => by
       rcases List.mem_append.1 h with h | h
       · exact (hm y (List.mem_cons_of_mem _ hy)).2 h
       · rw [List.mem_singleton.1 h] at hy; exact hn1 hy⟩)
     simpa using this
   | false =>
     have := pFold_rows hc qs xs (m ++ [q]) p (fun x hx => hq x (List.mem_cons_of_mem _ hx)) e2 hn2 (fun y hy => ⟨fun h => by
       rcases List.mem_append.1 h with h | h
       · exact (hm y (List.mem_cons_of_mem _ hy)).1 h
       · rw [List.mem_singleton.1 h] at hy; exact hn1 hy, (hm y (List.mem_cons_of_mem _ hy)).2⟩)
     simpa using this
theorem pParse_text {m p : List QuadL} (hm : ∀ q ∈ m, quadN q = 0) (hp : ∀ q ∈ p, quadN q = 0) (nm : m.Nodup) (np : p.Nodup) (hd : ∀ q ∈ p, q ∉ m) : pParse (pText m p) = .inl (setQ m, setQ p) := by
 obtain ⟨xs, j, h1, h2, h3, h4⟩ := lines_rows (l := pText m p) (c := 45) (by decide) m 0 (p.flatMap (fun q => pRow 43 q ++ [10])) hm rfl (Nat.zero_le _)
 obtain ⟨ys, k, g1, g2, g3, g4⟩ := lines_rows (l := pText m p) (c := 43) (by decide) p j [] hp (by rw [h2, List.append_nil]) h3
 have hk : linesL (pText m p) k = [] := linesL_end (by
   have := congrArg List.length g2
   simp at this
   omega)
 have hr : pRead (linesL (pText m p) 0) = .inl (m, p) := by
   unfold pRead
   rw [h1, g1, hk, List.append_nil, List.foldl_append, pFold_rows (b := false) rfl m xs [] [] hm h4 nm (by simp)]
   simp only [List.nil_append]
   have := pFold_rows (b := true) rfl p ys m [] hp g4 np (fun q hq => ⟨hd q hq, by simp⟩)
   simpa using this
 unfold pParse
 rw [hr]
end Go.Proofs.YtmnigckpejcaeaaGreatDoor
namespace Go.Proofs.YtmnigckpejcaeaaGreatDoor
open Go.RowKit
set_option maxRecDepth 100000
def sgnC (b : Bool) : UInt8 := if b = true then 43 else 45
def rowW (x : Bool × QuadL) : List UInt8 := pRow (sgnC x.1) x.2
def textW (L : List (Bool × QuadL)) : List UInt8 := L.flatMap fun x => rowW x ++ [10]
def printP (p : PatchL) (most : Int) : List UInt8 × Int := if checkN p ≠ 0 then ([], checkN p) else if most < ((pText p.minus p.plus).length : Int) then ([], 1) else (pText p.minus p.plus, 0)
theorem textW_snoc (L : List (Bool × QuadL)) (x : Bool × QuadL) : textW (L ++ [x]) = textW L ++ (rowW x ++ [10]) := by unfold textW; rw [List.flatMap_append]; simp
theorem textW_walk (p : PatchL) : textW (walkL p) = pText p.minus p.plus := by
 unfold textW walkL pText
 rw [List.flatMap_append, List.flatMap_map, List.flatMap_map]
 rfl
theorem textW_prefix {pre L : List (Bool × QuadL)} (h : pre <+: L) : (textW pre).length <= (textW L).length := by
 obtain ⟨r, rfl⟩ := h
 unfold textW
 rw [List.flatMap_append, List.length_append]
 omega
theorem textW_le {M : Nat} : ∀ (L : List (Bool × QuadL)), (∀ x ∈ L, (lineF x.2).length <= M) -> (textW L).length <= L.length * (M + 3)
 | [], _ => by simp [textW]
 | x :: r, h => by
   have h1 := h x (List.mem_cons_self ..)
   have h2 := textW_le r (fun y hy => h y (List.mem_cons_of_mem _ hy))
   have e : textW (x :: r) = rowW x ++ [10] ++ textW r := rfl
   rw [e]
   simp only [List.length_append, List.length_cons, List.length_nil, rowW, pRow, Nat.succ_mul]
   omega
theorem walk_mem {p : PatchL} {x : Bool × QuadL} (h : x ∈ walkL p) : x.2 ∈ p.minus \/ x.2 ∈ p.plus := by
 unfold walkL at h
 rcases List.mem_append.1 h with h | h
 · obtain ⟨q, hq, rfl⟩ := List.mem_map.1 h; exact .inl hq
 · obtain ⟨q, hq, rfl⟩ := List.mem_map.1 h; exact .inr hq
theorem walk_big {p : PatchL} (hN : NeatP p) {pre : List (Bool × QuadL)} (hp : pre <+: walkL p) : (textW pre).length <= 57174681255936 := by
 have h1 := textW_prefix hp
 have h2 := textW_le (M := 54526021) (walkL p) (fun x hx => by
   rcases walk_mem hx with h | h
   · exact lineF_le (hN.1.2 _ h)
   · exact lineF_le (hN.2.2 _ h))
 have h3 := walkL_len p
 have h4 := hN.1.1
 have h5 := hN.2.1
 have h6 : (walkL p).length * (54526021 + 3) <= 1048576 * (54526021 + 3) := Nat.mul_le_mul_right _ (by omega)
 omega
theorem printP_bad {p : PatchL} {most : Int} (h : checkN p ≠ 0) : printP p most = ([], checkN p) := by unfold printP; rw [if_pos h]
theorem printP_big {p : PatchL} {most : Int} (h : checkN p = 0) {pre : List (Bool × QuadL)} (hp : pre <+: walkL p) (hm : most < ((textW pre).length : Int)) : printP p most = ([], 1) := by
 have := textW_prefix hp
 rw [textW_walk] at this
 unfold printP
 rw [if_neg (fun e => e h), if_pos (by omega)]
theorem printP_ok {p : PatchL} {most : Int} (h : checkN p = 0) (hm : ((textW (walkL p)).length : Int) <= most) : printP p most = (textW (walkL p), 0) := by
 unfold printP
 rw [textW_walk] at hm ⊢
 rw [if_neg (fun e => e h), if_neg (by omega)]
theorem check_quads {p : PatchL} (h : checkN p = 0) : (∀ q ∈ p.minus, quadN q = 0) /\ (∀ q ∈ p.plus, quadN q = 0) := by
 obtain ⟨h1, _⟩ := firstN_zero.1 h
 obtain ⟨h2, h3⟩ := firstN_zero.1 h1
 exact ⟨((validF_ok _).1 h2).2.1, ((validF_ok _).1 h3).2.1⟩
theorem cat_row (c : UInt8) (m : List UInt8) : ((⟨#[c, 32]⟩ : ByteArray) ++ B m) ++ (⟨#[10]⟩ : ByteArray) = B ((c :: 32 :: m) ++ [10]) := by
 have h1 : (⟨#[c, 32]⟩ : ByteArray) ++ B m = B (c :: 32 :: m) := B_append [c, 32] m
 rw [h1]
 exact B_append _ [10]
end Go.Proofs.YtmnigckpejcaeaaGreatDoor
namespace Go.Proofs.YtmnigckpejcaeaaGreatDoor
open Go.RowKit
set_option maxRecDepth 100000
theorem pRead_own {m p m' p' : List QuadL} {pre : List (Nat × List UInt8)} (hm : ∀ q ∈ m, quadN q = 0) (hp : ∀ q ∈ p, quadN q = 0) (hpre : pre <+: linesL (pText m p) 0) (h : pRead pre = .inl (m', p')) (nm : m.Nodup) (np : p.Nodup) (hd : ∀ q ∈ p, q ∉ m) : m'.length <= m.length /\ p'.length <= p.length := by
 have mono : ∀ (r : List (Nat × List UInt8)) (m0 p0 m1 p1 : List QuadL), r.foldl pStep (.inl (m0, p0)) = .inl (m1, p1) -> m0.length <= m1.length /\ p0.length <= p1.length := by
   intro r
   induction r with
   | nil => intro m0 p0 m1 p1 h; cases h; exact ⟨Nat.le_refl _, Nat.le_refl _⟩
   | cons x r ih =>
     intro m0 p0 m1 p1 h
     rw [List.foldl_cons] at h
     obtain ⟨y, hy⟩ : ∃ y, pStep (.inl (m0, p0)) x = y := ⟨_, rfl⟩
     rw [hy] at h
     rcases y with ⟨m2, p2⟩ | f
     · have h1 := ih m2 p2 m1 p1 h
       have h2 : m0.length <= m2.length /\ p0.length <= p2.length := by
         unfold pStep at hy
         simp only at hy
         split at hy
         · cases hy
         · cases hy; exact ⟨Nat.le_refl _, Nat.le_refl _⟩
         · split at hy
           · cases hy
           · split at hy <;> (cases hy; simp)
       omega
     · rw [pStep_stuck] at h; cases h
 obtain ⟨xs, j, h1, h2, h3, h4⟩ := lines_rows (l := pText m p) (c := 45) (by decide) m 0 (p.flatMap (fun q => pRow 43 q ++ [10])) hm rfl (Nat.zero_le _)
 obtain ⟨ys, k, g1, g2, g3, g4⟩ := lines_rows (l := pText m p) (c := 43) (by decide) p j [] hp (by rw [h2, List.append_nil]) h3
 have hk : linesL (pText m p) k = [] := linesL_end (by
   have := congrArg List.length g2
   simp at this
   omega)
 have hr : pRead (linesL (pText m p) 0) = .inl (m, p) := by
   unfold pRead
   rw [h1, g1, hk, List.append_nil, List.foldl_append, pFold_rows (b := false) rfl m xs [] [] hm h4 nm (by simp)]
   simp only [List.nil_append]
   have := pFold_rows (b := true) rfl p ys m [] hp g4 np (fun q hq => ⟨hd q hq, by simp⟩)
   simpa using this
 obtain ⟨r, hr2⟩ := hpre
 rw [<- hr2] at hr
 unfold pRead at hr h
 rw [List.foldl_append, h] at hr
 exact mono r m' p' m p hr
end Go.Proofs.YtmnigckpejcaeaaGreatDoor
namespace Go.Proofs.YtmnigckpejcaeaaGreatDoor
open Go.RowKit
set_option maxRecDepth 100000
theorem rise_nodup : ∀ {l : List QuadL}, Rise l -> l.Nodup := fun h => h.imp (fun {a b} hab e => by
 subst e
 have := cmpQ_self a
 omega)
theorem setQ_of_rise {l : List QuadL} (h : Rise l) : setQ l = l := rise_ext (setQ_rise l) h (fun x => by rw [mem_setQ])
theorem force_least {a b : List QuadL} {o : PatchL} (ha : Fine a) (hb : Fine b) (h : behindN false a o = (b, 0)) : (minusS a b).length + (minusS b a).length <= o.minus.length + o.plus.length := by
 have hc : FineP o /\ unionS (minusS a o.minus) o.plus = b := by
   unfold behindN at h
   split at h
   · next hn => exact absurd (congrArg Prod.snd h) hn
   · next hn =>
     rw [if_neg (by simp)] at h
     split at h
     · exact absurd (congrArg Prod.snd h) (by simp)
     · refine ⟨(checkN_ok o).1 ?_, congrArg Prod.fst h⟩
       have hz : firstN (validF a).2 (checkN o) = 0 := Decidable.not_not.1 hn
       exact (firstN_zero.1 hz).2
 obtain ⟨ho, he⟩ := hc
 have r1 := minus_rise ha.rise ho.1.rise
 have hmem : ∀ x, x ∈ b ↔ (x ∈ a /\ x ∉ o.minus) \/ x ∈ o.plus := fun x => by rw [<- he, mem_union r1 ho.2.1.rise, mem_minus ha.rise ho.1.rise]
 have h1 : (minusS a b).length <= o.minus.length := List.Nodup.length_le_of_subset (rise_nodup (minus_rise ha.rise hb.rise)) (fun x hx => by
   rw [mem_minus ha.rise hb.rise, hmem] at hx
   by_cases hm : x ∈ o.minus
   · exact hm
   · exact absurd (.inl ⟨hx.1, hm⟩) hx.2)
 have h2 : (minusS b a).length <= o.plus.length := List.Nodup.length_le_of_subset (rise_nodup (minus_rise hb.rise ha.rise)) (fun x hx => by
   rw [mem_minus hb.rise ha.rise, hmem] at hx
   rcases hx.1 with h | h
   · exact absurd h.1 hx.2
   · exact h)
 omega
theorem pParse_fine {p : PatchL} (h : FineP p) : pParse (pText p.minus p.plus) = .inl (p.minus, p.plus) := by
 rw [pParse_text h.1.2.1 h.2.1.2.1 (rise_nodup h.1.rise) (rise_nodup h.2.1.rise) (fun q hq hm => h.2.2 q hm hq), setQ_of_rise h.1.rise, setQ_of_rise h.2.1.rise]
end Go.Proofs.YtmnigckpejcaeaaGreatDoor
