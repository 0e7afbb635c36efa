/-
  Loose texts: blanks, ends of lines, comments: what is read of them, and of lines with such between. Plain laws. No program in sight. By an AI agent.
-/
import Derived.Test.YtdegonmkikfghaaGreatDoorZPatch0
import Derived.Test.YtdegonmkikfghaaGreatDoorZRdW1
namespace Go.Proofs.YtdegonmkikfghaaGreatDoor
open Go.RowKit
set_option maxRecDepth 100000
def looseB : List UInt8 -> Bool -> Bool
 | [], _ => true
 | c :: l, b => if eolC c = true then looseB l false else if c = 35 then looseB l true else if 128 <= c.toNat \/ (b = false /\ c ≠ 32 /\ c ≠ 9) then false else looseB l b
def Reads (l : List UInt8) (qs : List QuadL) : Prop := (eachF l 0).2 = none /\ (eachF l 0).1.map (·.2) = qs
theorem reads_two {s t : List UInt8} {d : UInt8} {a b : List QuadL} (hd : eolC d = true) (hs : Reads s a) (ht : Reads t b) : Reads (s ++ d :: t) (a ++ b) := by
 obtain ⟨h1, h2⟩ := hs
 obtain ⟨h3, h4⟩ := ht
 unfold Reads
 rw [each_two hd, h1]
 refine ⟨by simp only [shiftP, h3, Option.map_none], ?_⟩
 show ((eachF s 0).1 ++ (shiftP (s.length + 1) (eachF t 0)).1).map (·.2) = a ++ b
 rw [List.map_append, h2, <- h4]
 simp only [shiftP, List.map_map]
 rfl
theorem eolF_none {l : List UInt8} (h : ∀ c ∈ l, eolC c = false) : ∀ (k i : Nat), l.length - i <= k -> i <= l.length -> eolF l i = l.length
 | k, i, hk, hi => by
   by_cases hl : l.length <= i
   · rw [eolF_end hl]; omega
   match k, hk with
   | 0, hk => omega
   | k + 1, hk =>
     have hm : l.getD i 0 ∈ l := by
       have : l.getD i 0 = l[i] := by simp [List.getD, show i < l.length by omega]
       rw [this]; exact List.getElem_mem _
     rw [eolF_go (by omega) (h _ hm)]
     exact eolF_none h k (i + 1) (by omega) (by omega)
theorem cut_all (l : List UInt8) : cutF l 0 l.length = l := by unfold cutF; simp
theorem reads_line {l : List UInt8} {q : QuadL} (h : ∀ c ∈ l, eolC c = false) (hq : lineAt l = .inl (some q)) : Reads l [q] := by
 have h0 : 0 < l.length := by
   cases l with
   | nil => rw [line_none] at hq; cases hq
   | cons c l => simp
 have he := eolF_none h l.length 0 (by omega) (by omega)
 unfold Reads
 rw [eachF_some h0 (by rw [he, cut_all]; exact hq), he, eachF_end (by omega)]
 exact ⟨rfl, rfl⟩
theorem reads_void {l : List UInt8} (h : ∀ c ∈ l, eolC c = false) (hq : lineAt l = .inl none) : Reads l [] := by
 by_cases h0 : l.length <= 0
 · unfold Reads
   rw [eachF_end h0]
   exact ⟨rfl, rfl⟩
 have he := eolF_none h l.length 0 (by omega) (by omega)
 unfold Reads
 rw [eachF_none (by omega) (by rw [he, cut_all]; exact hq), he, eachF_end (by omega)]
 exact ⟨rfl, rfl⟩
theorem loose_split : ∀ (l : List UInt8) (b : Bool), looseB l b = true -> ∃ g, (∀ c ∈ g, eolC c = false) /\ looseB g b = true /\ (l = g \/ ∃ d r, eolC d = true /\ l = g ++ d :: r /\ looseB r false = true)
 | [], b, _ => ⟨[], (fun c hc => by cases hc), rfl, .inl rfl⟩
 | c :: l, b, h => by
   by_cases hc : eolC c = true
   · rw [looseB, if_pos hc] at h
     exact ⟨[], (fun c hc => by cases hc), rfl, .inr ⟨c, l, hc, rfl, h⟩⟩
   · have hc' : eolC c = false := by simpa using hc
     have key : ∀ b', looseB l b' = true -> (∀ g, looseB g b' = true -> looseB (c :: g) b = true) -> ∃ g, (∀ c ∈ g, eolC c = false) /\ looseB g b = true /\ (c :: l = g \/ ∃ d r, eolC d = true /\ c :: l = g ++ d :: r /\ looseB r false = true) := fun b' h1 h2 => by
       obtain ⟨g, g1, g2, g3⟩ := loose_split l b' h1
       refine ⟨c :: g, fun x hx => ?_, h2 g g2, ?_⟩
       · rcases List.mem_cons.1 hx with rfl | hx
         · exact hc'
         · exact g1 x hx
       · rcases g3 with rfl | ⟨d, r, d1, rfl, d3⟩
         · exact .inl rfl
         · exact .inr ⟨d, r, d1, rfl, d3⟩
     rw [looseB, if_neg hc] at h
     by_cases h35 : c = 35
     · rw [if_pos h35] at h
       exact key true h (fun g hg => by rw [looseB, if_neg hc, if_pos h35]; exact hg)
     · rw [if_neg h35] at h
       by_cases hx : 128 <= c.toNat \/ (b = false /\ c ≠ 32 /\ c ≠ 9)
       · rw [if_pos hx] at h; cases h
       · rw [if_neg hx] at h
         exact key b h (fun g hg => by rw [looseB, if_neg hc, if_neg h35, if_neg hx]; exact hg)
theorem loose_low : ∀ (l : List UInt8) (b : Bool), looseB l b = true -> ∀ c ∈ l, c.toNat < 128
 | [], _, _ => fun c hc => by cases hc
 | c :: l, b, h => by
   have step : c.toNat < 128 /\ ∃ b', looseB l b' = true := by
     rw [looseB] at h
     by_cases hc : eolC c = true
     · rw [if_pos hc] at h
       refine ⟨?_, _, h⟩
       unfold eolC at hc
       rcases Bool.or_eq_true _ _ ▸ hc with h1 | h1
       · rw [beq_iff_eq.1 h1]; decide
       · rw [beq_iff_eq.1 h1]; decide
     · rw [if_neg hc] at h
       by_cases h35 : c = 35
       · rw [if_pos h35] at h
         exact ⟨by rw [h35]; decide, _, h⟩
       · rw [if_neg h35] at h
         by_cases hx : 128 <= c.toNat \/ (b = false /\ c ≠ 32 /\ c ≠ 9)
         · rw [if_pos hx] at h; cases h
         · rw [if_neg hx] at h
           exact ⟨by omega, _, h⟩
   obtain ⟨h1, b', h2⟩ := step
   intro x hx
   rcases List.mem_cons.1 hx with rfl | hx
   · exact h1
   · exact loose_low l b' h2 x hx
end Go.Proofs.YtdegonmkikfghaaGreatDoor
namespace Go.Proofs.YtdegonmkikfghaaGreatDoor
open Go.RowKit
set_option maxRecDepth 100000
theorem utf_low (l : List UInt8) (h : ∀ c ∈ l, c.toNat < 128) : ∀ (k i : Nat), l.length - i <= k -> utfF l i = -1
 | k, i, hk => by
   by_cases hl : l.length <= i
   · exact utfF_end hl
   match k, hk with
   | 0, hk => omega
   | k + 1, hk =>
     have hg : l.drop i = l[i]'(by omega) :: l.drop (i + 1) := List.drop_eq_getElem_cons (by omega)
     have hn := nextAt_low hg (h _ (List.getElem_mem _))
     rw [utfF_go (by omega) hn (by decide)]
     exact utf_low l h k (i + 1) (by omega)
theorem loose_blk (l : List UInt8) : ∀ (k i : Nat), l.length - i <= k -> looseB (l.drop i) false = true -> (∀ c ∈ l.drop i, eolC c = false) -> l.length <= blkF l i \/ (blkF l i < l.length /\ l.getD (blkF l i) 0 = 35 /\ ∀ c ∈ l.drop (blkF l i), c.toNat < 128)
 | k, i, hk, h, he => by
   by_cases hl : l.length <= i
   · exact .inl (by rw [blkF_end hl]; exact hl)
   match k, hk with
   | 0, hk => omega
   | k + 1, hk =>
     have hg : l.drop i = l[i]'(by omega) :: l.drop (i + 1) := List.drop_eq_getElem_cons (by omega)
     have hd : l.getD i 0 = l[i]'(by omega) := by simp [List.getD, show i < l.length by omega]
     rw [hg] at he
     have hc := he _ (List.mem_cons_self ..)
     by_cases hb : l.getD i 0 = 32 \/ l.getD i 0 = 9
     · rw [blkF_go (by omega) hb]
       refine loose_blk l k (i + 1) (by omega) ?_ (fun c hx => he c (List.mem_cons_of_mem _ hx))
       rw [hg, looseB, if_neg (by rw [hc]; simp)] at h
       rw [hd] at hb
       rw [if_neg (by rcases hb with hb | hb <;> rw [hb] <;> decide)] at h
       by_cases hx : 128 <= (l[i]'(by omega)).toNat \/ ((false : Bool) = false /\ l[i]'(by omega) ≠ 32 /\ l[i]'(by omega) ≠ 9)
       · rw [if_pos hx] at h; cases h
       · rw [if_neg hx] at h; exact h
     · rw [blkF_stop (by omega) hb]
       rw [hd] at hb
       refine .inr ⟨by omega, ?_, fun c hx => loose_low _ _ h c hx⟩
       rw [hg, looseB, if_neg (by rw [hc]; simp)] at h
       by_cases h35 : l[i]'(by omega) = 35
       · rw [hd]; exact h35
       · rw [if_neg h35, if_pos (.inr ⟨rfl, fun e => hb (.inl e), fun e => hb (.inr e)⟩)] at h
         cases h
theorem rest_loose {l : List UInt8} {i : Nat} (h : looseB (l.drop i) false = true) (he : ∀ c ∈ l.drop i, eolC c = false) : restF' l i = none := by
 unfold restF'
 rcases loose_blk l l.length i (by omega) h he with h1 | ⟨h1, h2, h3⟩
 · rw [if_pos h1]
 · have hu := utf_low _ h3 (l.drop (blkF l i)).length 0 (by omega)
   rw [if_neg (by omega), if_neg (by rw [h2]; simp), hu, if_neg (by decide)]
theorem line_loose {l : List UInt8} (h : looseB l false = true) (he : ∀ c ∈ l, eolC c = false) : lineAt l = .inl none := by
 unfold lineAt
 have hn : ¬ (blkF l 0 < l.length /\ l.getD (blkF l 0) 0 ≠ 35) := by
   rintro ⟨h1, h2⟩
   rcases loose_blk l l.length 0 (by omega) h he with h3 | ⟨_, h3, _⟩
   · omega
   · exact h2 h3
 rw [if_neg hn, rest_loose (i := 0) h he]
theorem reads_loose : ∀ (k : Nat) (l : List UInt8), l.length <= k -> looseB l false = true -> Reads l []
 | k, l, hk, h => by
   obtain ⟨g, g1, g2, g3⟩ := loose_split l false h
   have hv := reads_void g1 (line_loose g2 g1)
   rcases g3 with rfl | ⟨d, r, hd, rfl, hr⟩
   · exact hv
   · match k, hk with
     | 0, hk => simp at hk
     | k + 1, hk =>
       exact reads_two hd hv (reads_loose k r (by simp at hk; omega) hr)
theorem reads_behind {x gap : List UInt8} {q : QuadL} (hx : ∀ c ∈ x, eolC c = false) (hg : looseB gap false = true) (hq : ∀ g, looseB g false = true -> (∀ c ∈ g, eolC c = false) -> lineAt (x ++ g) = .inl (some q)) : Reads (x ++ gap) [q] := by
 obtain ⟨g, g1, g2, g3⟩ := loose_split gap false hg
 have hv : Reads (x ++ g) [q] := reads_line (fun c hc => (List.mem_append.1 hc).elim (hx c) (g1 c)) (hq g g2 g1)
 rcases g3 with rfl | ⟨d, r, hd, rfl, hr⟩
 · exact hv
 · rw [<- List.append_assoc]
   exact reads_two hd hv (reads_loose r.length r (Nat.le_refl _) hr)
theorem parse_reads {l : List UInt8} {qs : List QuadL} (h : Reads l qs) : parseF l = .inl (setQ qs) := by
 unfold parseF
 rw [h.1, h.2]
end Go.Proofs.YtdegonmkikfghaaGreatDoor
namespace Go.Proofs.YtdegonmkikfghaaGreatDoor
open Go.RowKit
set_option maxRecDepth 100000
theorem tail_label9 {l t rest : List UInt8} {b : Nat} (hd : l.drop b = t ++ 9 :: rest) : ∀ (k i e : Nat) (sc : List Int), t.length - i <= k -> i <= t.length -> scalF t i = some sc -> okRest sc = true -> (sc = [] -> e = b + t.length) -> tailF l (b + i) e = b + t.length
 | k, i, e, sc, hk, hi, hs, ho, he => by
   have hdi : l.drop (b + i) = t.drop i ++ 9 :: rest := by rw [<- List.drop_drop, hd, List.drop_append_of_le_length hi]
   by_cases hend : i = t.length
   · subst hend
     rw [scalF_end (Nat.le_refl _)] at hs
     cases hs
     rw [List.drop_length, List.nil_append] at hdi
     have hq : nextAt l ((b + t.length : Nat) : Int) = (9, 1) := by
       rw [nextAt_nat, hdi, nextP_1 (by decide)]; rfl
     rw [tailF_stop hq (.inr ⟨by decide, by decide⟩)]
     exact he rfl
   obtain ⟨v, n, hq⟩ : ∃ v n, nextAt t (i : Int) = (v, n) := ⟨_, _, rfl⟩
   by_cases hn : n = 0
   · subst hn
     rw [scalF_none (by omega) hq] at hs
     cases hs
   have hq2 : nextAt l ((b + i : Nat) : Int) = (v, n) := by
     rw [nextAt_nat] at hq ⊢
     rw [hdi]
     exact nextP_more _ hq hn
   have hbd := (nextAt_bound hq hn).2.1
   have hbd2 : i + n <= t.length := by omega
   rw [scalF_go (by omega) hq hn] at hs
   obtain ⟨sc', h1, rfl⟩ := Option.map_eq_some_iff.1 hs
   rw [okRest, Bool.and_eq_true] at ho
   obtain ⟨ho1, ho2⟩ := ho
   have hgo : ¬ (n = 0 \/ (v ≠ 46 /\ followB v = false)) := by
     rintro (h | ⟨h, h2⟩)
     · exact hn h
     · rw [h2, show (v == 46) = false from beq_eq_false_iff_ne.2 h] at ho1
       cases ho1
   rw [tailF_go hq2 hgo, Nat.add_assoc]
   match k, hk with
   | 0, hk => omega
   | k + 1, hk =>
     refine tail_label9 hd k (i + n) _ sc' (by omega) hbd2 h1 ho2 (fun hnil => ?_)
     subst hnil
     have hfull : i + n = t.length := by
       by_cases hx : i + n = t.length
       · exact hx
       · exfalso
         obtain ⟨v2, n2, hq3⟩ : ∃ v m, nextAt t ((i + n : Nat) : Int) = (v, m) := ⟨_, _, rfl⟩
         by_cases hn2 : n2 = 0
         · subst hn2; rw [scalF_none (by omega) hq3] at h1; cases h1
         · rw [scalF_go (by omega) hq3 hn2] at h1
           cases h4 : scalF t (i + n + n2) with
           | none => rw [h4] at h1; cases h1
           | some t => rw [h4] at h1; cases h1
     split
     · next hv =>
       subst hv
       rw [show followB 46 = false by decide] at ho1
       cases ho1
     · omega
theorem run_label9 {l t rest : List UInt8} {b : Nat} (hd : l.drop b = t ++ 9 :: rest) (hw : wholeR labelB t = true) : runF labelB l (b : Nat) = t.length /\ t.length ≠ 0 := by
 unfold wholeR at hw
 split at hw
 · next v sc hs =>
   rw [Bool.and_eq_true] at hw
   have hne : 0 < t.length := by
     rcases t with _ | ⟨c, r⟩
     · rw [scalF_end (by simp)] at hs; cases hs
     · simp
   obtain ⟨v', n, hq⟩ : ∃ v n, nextAt t ((0 : Nat) : Int) = (v, n) := ⟨_, _, rfl⟩
   have hn : n ≠ 0 := fun e => by subst e; rw [scalF_none hne hq] at hs; cases hs
   rw [scalF_go hne hq hn] at hs
   obtain ⟨sc', h1, h2⟩ := Option.map_eq_some_iff.1 hs
   cases h2
   have hbd := (nextAt_bound hq hn).2.1
   have hq2 : nextAt l ((b : Nat) : Int) = (v, n) := by
     rw [nextAt_nat] at hq ⊢
     rw [hd]
     exact nextP_more _ hq hn
   rw [runF_go hq2 (by rintro (h | h); exact hn h; rw [hw.1] at h; cases h)]
   have := tail_label9 hd t.length (0 + n) (b + n) sc (by omega) (by omega) h1 hw.2 (fun hnil => by
     subst hnil
     by_cases hx : 0 + n = t.length
     · omega
     · exfalso
       obtain ⟨v2, n2, hq3⟩ : ∃ v m, nextAt t ((0 + n : Nat) : Int) = (v, m) := ⟨_, _, rfl⟩
       by_cases hn2 : n2 = 0
       · subst hn2; rw [scalF_none (by omega) hq3] at h1; cases h1
       · rw [scalF_go (by omega) hq3 hn2] at h1
         cases h4 : scalF t (0 + n + n2) with
         | none => rw [h4] at h1; cases h1
         | some t => rw [h4] at h1; cases h1)
   rw [Nat.zero_add] at this
   rw [this]
   omega
 · cases hw
theorem behind_text9 {t : TermL} (ht : litN t = 0) (hk : t.kind = 3) {l rest : List UInt8} {e : Nat} (hd : l.drop e = (if t.lang ≠ [] then 64 :: t.lang else if t.type ≠ plainT then 94 :: 94 :: angF t.type else []) ++ 9 :: rest) :
   behindF l t.text e = .inl (t, e + (if t.lang ≠ [] then 64 :: t.lang else if t.type ≠ plainT then 94 :: 94 :: angF t.type else []).length) := by
 obtain ⟨h1, h2, h3, h4⟩ := lit_cases ht
 obtain ⟨k, tx, ty, la⟩ := t
 simp only at hk h1 h2 h3 h4 hd ⊢
 subst hk
 rcases h4 with ⟨rfl, hty⟩ | ⟨hl, rfl, hlen, htag, hlow⟩
 · rw [if_neg (by simp)] at hd ⊢
   by_cases hp : ty = plainT
   · subst hp
     rw [if_neg (by simp)] at hd ⊢
     obtain ⟨_, g2, _⟩ := drop_head (show l.drop e = 9 :: rest from hd)
     unfold behindF
     rw [g2, if_neg (by decide), if_neg (by rintro ⟨h, _⟩; cases h)]
     rfl
   · rw [if_pos hp] at hd ⊢
     obtain ⟨_, g2, g3⟩ := drop_head (show l.drop e = 94 :: (94 :: angF ty ++ 9 :: rest) from hd)
     obtain ⟨_, g5, g6⟩ := drop_head (show l.drop (e + 1) = 94 :: (angF ty ++ 9 :: rest) from g3)
     unfold behindF
     rw [g2, g5, if_neg (by decide), if_pos ⟨rfl, rfl⟩, iriAt_ang g6 h3]
     simp only
     rw [if_neg hty]
     simp
     omega
 · rw [if_pos hl] at hd ⊢
   obtain ⟨g1, g2, g3⟩ := drop_head (show l.drop e = 64 :: (la ++ 9 :: rest) from hd)
   have hE := tagE_plain (l := l) (b := 9 :: rest) (fun c t h => by cases h; decide) la (e + 1) (by omega) g3 (tagF_chars htag)
   unfold behindF
   rw [g2, if_pos rfl]
   unfold tagAt
   rw [hE, cutF_of g3, if_neg (by omega), if_neg (by rw [htag]; simp), hlow]
   simp
   omega
theorem termAt_text9 {t : TermL} (ht : termN t = 0) {l rest : List UInt8} {i : Nat} (hd : l.drop i = textF t ++ 9 :: rest) : termAt l i = .inl (t, i + (textF t).length) := by
 rcases term_cases ht with ⟨hk, h1, h2, h3⟩ | ⟨hk, h1, h2, h3, h4⟩ | ⟨hk, h1⟩
 · have e : textF t = angF t.text := by unfold textF; rw [if_pos hk]
   rw [e] at hd ⊢
   have hi := iriAt_ang hd h3
   obtain ⟨_, g2, _⟩ := drop_head (show l.drop i = 60 :: ((escF 2 t.text 0 ++ [62]) ++ 9 :: rest) from hd)
   unfold termAt
   rw [g2, if_pos rfl, hi]
   obtain ⟨k, tx, ty, la⟩ := t
   simp only at hk h1 h2 ⊢
   rw [hk, h1, h2]
 · have e : textF t = 95 :: 58 :: t.text := by unfold textF; rw [if_neg (by omega), if_pos hk]
   rw [e] at hd ⊢
   obtain ⟨g1, g2, g3⟩ := drop_head (show l.drop i = 95 :: (58 :: t.text ++ 9 :: rest) from hd)
   obtain ⟨g4, g5, g6⟩ := drop_head (show l.drop (i + 1) = 58 :: (t.text ++ 9 :: rest) from g3)
   obtain ⟨hr, hr0⟩ := run_label9 g6 h4
   unfold termAt
   rw [g2, if_neg (by decide), if_neg (by decide), if_pos rfl]
   unfold blankAt
   rw [g5, if_neg (by simp), show i + 2 = i + 1 + 1 by omega, hr, if_neg hr0, if_neg (by omega), cutF_of g6]
   obtain ⟨k, tx, ty, la⟩ := t
   simp only at hk h1 h2 ⊢
   rw [hk, h1, h2]
   simp
   omega
 · have e : textF t = 34 :: (escF 1 t.text 0 ++ (34 :: (if t.lang ≠ [] then 64 :: t.lang else if t.type ≠ plainT then 94 :: 94 :: angF t.type else []))) := by
     unfold textF; rw [if_neg (by omega), if_neg (by omega)]
   rw [e] at hd ⊢
   obtain ⟨hl1, hl2, hl3, _⟩ := lit_cases h1
   obtain ⟨g1, g2, g3⟩ := drop_head (show l.drop i = 34 :: ((escF 1 t.text 0 ++ (34 :: (if t.lang ≠ [] then 64 :: t.lang else if t.type ≠ plainT then 94 :: 94 :: angF t.type else []))) ++ 9 :: rest) from hd)
   rw [List.append_assoc, List.cons_append] at g3
   have hc := close_esc t.text t.text.length 0 (i + 1) (by omega) g3
   have g4 := drop_more g3
   obtain ⟨g5, g6, g7⟩ := drop_head g4
   rw [closeF_quote g5 g6] at hc
   unfold termAt
   rw [g2, if_neg (by decide), if_pos rfl]
   unfold litAt
   rw [hc]
   simp only
   rw [cutF_of g3, unesc_of_esc 1 hl2]
   simp only
   rw [if_neg (by omega), behind_text9 h1 hk g7]
   simp
   omega
theorem termAt_sep {t : TermL} (ht : termN t = 0) {l rest : List UInt8} {i : Nat} {d : UInt8} (hdd : d = 32 \/ d = 9) (hd : l.drop i = textF t ++ d :: rest) : termAt l i = .inl (t, i + (textF t).length) := by
 rcases hdd with rfl | rfl
 · exact termAt_text ht hd
 · exact termAt_text9 ht hd
theorem termAt_iri {t : TermL} (ht : termN t = 0) (hk : t.kind = 1) {l rest : List UInt8} {i : Nat} (hd : l.drop i = textF t ++ rest) : termAt l i = .inl (t, i + (textF t).length) := by
 rcases term_cases ht with ⟨_, h1, h2, h3⟩ | ⟨hk2, _⟩ | ⟨hk2, _⟩
 · have e : textF t = angF t.text := by unfold textF; rw [if_pos hk]
   rw [e] at hd ⊢
   have hi := iriAt_ang hd h3
   obtain ⟨_, g2, _⟩ := drop_head (show l.drop i = 60 :: ((escF 2 t.text 0 ++ [62]) ++ rest) from hd)
   unfold termAt
   rw [g2, if_pos rfl, hi]
   obtain ⟨k, tx, ty, la⟩ := t
   simp only at hk h1 h2 ⊢
   rw [hk, h1, h2]
 · omega
 · omega
def blankC (c : UInt8) : Bool := c == 32 || c == 9
theorem blank_iff {c : UInt8} : blankC c = true ↔ c = 32 \/ c = 9 := by unfold blankC; rw [Bool.or_eq_true, beq_iff_eq, beq_iff_eq]
theorem blk_many {l b : List UInt8} {c : UInt8} (hc : ¬ (c = 32 \/ c = 9)) : ∀ (s : List UInt8) (i : Nat), (∀ x ∈ s, blankC x = true) -> l.drop i = s ++ c :: b -> blkF l i = i + s.length
 | [], i, _, hd => by rw [blk_none (show l.drop i = c :: b from hd) hc]; rfl
 | x :: s, i, hs, hd => by
   obtain ⟨h1, h2, h3⟩ := drop_head (show l.drop i = x :: (s ++ c :: b) from hd)
   rw [blkF_go h1 (by rw [h2]; exact blank_iff.1 (hs x (List.mem_cons_self ..))), blk_many hc s (i + 1) (fun y hy => hs y (List.mem_cons_of_mem _ hy)) h3, List.length_cons]
   omega
theorem slot_sep {t : TermL} (ht : termN t = 0) {l s b : List UInt8} {i : Nat} {c : UInt8} {signs : List UInt8} (hsg : ∀ d r, textF t = d :: r -> d ∈ signs) (hs : ∀ x ∈ s, blankC x = true) (hk : t.kind ≠ 1 -> s ≠ []) (hd : l.drop i = textF t ++ (s ++ c :: b)) (hc : ¬ (c = 32 \/ c = 9)) :
   slotF l i signs = .inl (t, i + (textF t).length + s.length) /\ l.drop (i + (textF t).length + s.length) = c :: b := by
 obtain ⟨d, r, he, _⟩ := text_head ht
 have h1 : termAt l i = .inl (t, i + (textF t).length) := by
   by_cases hk1 : t.kind = 1
   · exact termAt_iri ht hk1 hd
   · cases s with
     | nil => exact absurd rfl (hk hk1)
     | cons x s => exact termAt_sep ht (blank_iff.1 (hs x (List.mem_cons_self ..))) hd
 have hm := drop_more hd
 have hb := blk_many hc s _ hs hm
 refine ⟨?_, drop_more hm⟩
 rw [he, List.cons_append] at hd
 obtain ⟨g1, g2, _⟩ := drop_head hd
 unfold slotF
 rw [g2, if_pos ⟨g1, hsg d r he⟩, h1]
 simp only
 rw [hb]
end Go.Proofs.YtdegonmkikfghaaGreatDoor
namespace Go.Proofs.YtdegonmkikfghaaGreatDoor
open Go.RowKit
set_option maxRecDepth 100000
def sepF (bl : List UInt8) (t : TermL) : List UInt8 := if t.kind ≠ 1 /\ bl = [] then [32] else []
def putT (bl : List UInt8) (t : TermL) : List UInt8 := bl ++ (textF t ++ sepF bl t)
def looseL (bl : List UInt8) (q : QuadL) : List UInt8 := putT bl q.s ++ (putT bl q.p ++ (putT bl q.o ++ ((if q.g = noTerm then [] else putT bl q.g) ++ (bl ++ [46]))))
theorem sep_blank {bl : List UInt8} (hb : ∀ x ∈ bl, blankC x = true) (t : TermL) : ∀ x ∈ sepF bl t ++ bl, blankC x = true := by
 intro x hx
 rcases List.mem_append.1 hx with hx | hx
 · unfold sepF at hx
   split at hx
   · rw [List.mem_singleton.1 hx]; decide
   · cases hx
 · exact hb x hx
theorem sep_some {bl : List UInt8} {t : TermL} (hk : t.kind ≠ 1) : sepF bl t ++ bl ≠ [] := by
 unfold sepF
 by_cases h : bl = []
 · rw [if_pos ⟨hk, h⟩]; simp
 · intro e
   exact h (List.append_eq_nil_iff.1 e).2
theorem head_ok {t : TermL} (ht : termN t = 0) : ∃ c r, textF t = c :: r /\ ¬ (c = 32 \/ c = 9) /\ c ≠ 35 /\ c ≠ 46 := by
 obtain ⟨c, r, h, h2⟩ := text_head ht
 refine ⟨c, r, h, ?_⟩
 rcases h2 with ⟨_, rfl⟩ | ⟨_, rfl⟩ | ⟨_, rfl⟩ <;> decide
theorem slot_sep' {t : TermL} (ht : termN t = 0) {l s Z : List UInt8} {i : Nat} {signs : List UInt8} (hsg : ∀ d r, textF t = d :: r -> d ∈ signs) (hs : ∀ x ∈ s, blankC x = true) (hk : t.kind ≠ 1 -> s ≠ []) (hd : l.drop i = textF t ++ (s ++ Z)) (hz : ∃ c b, Z = c :: b /\ ¬ (c = 32 \/ c = 9)) :
   slotF l i signs = .inl (t, i + (textF t).length + s.length) /\ l.drop (i + (textF t).length + s.length) = Z := by
 obtain ⟨c, b, rfl, hc⟩ := hz
 exact slot_sep ht hsg hs hk hd hc
theorem head_of {t : TermL} (ht : termN t = 0) (y : List UInt8) : ∃ c b, textF t ++ y = c :: b /\ ¬ (c = 32 \/ c = 9) := by
 obtain ⟨c, r, e, n, _⟩ := head_ok ht
 exact ⟨c, r ++ y, by rw [e]; rfl, n⟩
theorem stmt_loose {q : QuadL} (h : quadN q = 0) {bl l tail : List UInt8} {i : Nat} (hb : ∀ x ∈ bl, blankC x = true)
   (hd : l.drop i = textF q.s ++ ((sepF bl q.s ++ bl) ++ (textF q.p ++ ((sepF bl q.p ++ bl) ++ (textF q.o ++ ((sepF bl q.o ++ bl) ++ ((if q.g = noTerm then [] else textF q.g ++ (sepF bl q.g ++ bl)) ++ 46 :: tail))))))) :
   ∃ n, stmtF l i = .inl (q, n) /\ l.drop n = tail := by
 obtain ⟨h1, h2, h3, h4, h5, h6⟩ := line_cases h
 have ks : ∀ d r, textF q.s = d :: r -> d ∈ ([60, 95] : List UInt8) := fun d r e => by
   obtain ⟨c, r', e', h'⟩ := text_head h2
   rw [e'] at e; cases e
   rcases h' with ⟨_, rfl⟩ | ⟨_, rfl⟩ | ⟨hk, _⟩
   · simp
   · simp
   · omega
 have kp : ∀ d r, textF q.p = d :: r -> d ∈ ([60] : List UInt8) := fun d r e => by
   obtain ⟨c, r', e', h'⟩ := text_head h4
   rw [e'] at e; cases e
   rcases h' with ⟨_, rfl⟩ | ⟨hk, _⟩ | ⟨hk, _⟩
   · simp
   · omega
   · omega
 have ko : ∀ d r, textF q.o = d :: r -> d ∈ ([60, 95, 34] : List UInt8) := fun d r e => by
   obtain ⟨c, r', e', h'⟩ := text_head h5
   rw [e'] at e; cases e
   rcases h' with ⟨_, rfl⟩ | ⟨_, rfl⟩ | ⟨_, rfl⟩ <;> simp
 obtain ⟨s1, d1⟩ := slot_sep' h2 ks (sep_blank hb q.s) (fun hk => sep_some hk) hd (head_of h4 _)
 obtain ⟨s2, d2⟩ := slot_sep' h4 kp (sep_blank hb q.p) (fun hk => sep_some hk) d1 (head_of h5 _)
 obtain ⟨k, p, o, g⟩ := q
 simp only at *
 rcases h6 with rfl | ⟨hg, hgt⟩
 · rw [if_pos rfl, List.nil_append] at d2
   obtain ⟨s3, d3⟩ := slot_sep' h5 ko (sep_blank hb o) (fun hk => sep_some hk) d2 ⟨46, tail, rfl, by decide⟩
   obtain ⟨_, g3, g4⟩ := drop_head d3
   refine ⟨_, ?_, g4⟩
   unfold stmtF
   rw [s1]; simp only
   rw [s2]; simp only
   rw [s3]; simp only
   rw [g3, if_pos rfl]
 · have hne : g ≠ noTerm := fun e => by rw [e] at hg; simp [noTerm] at hg
   obtain ⟨cg, rg, eg, ng, _, ng2⟩ := head_ok hgt
   rw [if_neg hne] at d2
   rw [List.append_assoc (textF g)] at d2
   obtain ⟨s3, d3⟩ := slot_sep' h5 ko (sep_blank hb o) (fun hk => sep_some hk) d2 (head_of hgt _)
   have kg : ∀ d r, textF g = d :: r -> d ∈ ([60, 95] : List UInt8) := fun d r e => by
     obtain ⟨c, r', e', h'⟩ := text_head hgt
     rw [e'] at e; cases e
     rcases h' with ⟨_, rfl⟩ | ⟨_, rfl⟩ | ⟨hk, _⟩
     · simp
     · simp
     · omega
   obtain ⟨s4, d4⟩ := slot_sep' hgt kg (sep_blank hb g) (fun hk => sep_some hk) d3 ⟨46, tail, rfl, by decide⟩
   obtain ⟨_, g3, g4⟩ := drop_head d4
   rw [eg, List.cons_append] at d3
   obtain ⟨_, g5, _⟩ := drop_head d3
   refine ⟨_, ?_, g4⟩
   unfold stmtF
   rw [s1]; simp only
   rw [s2]; simp only
   rw [s3]; simp only
   rw [g5, if_neg ng2, s4]; simp only
   rw [g3, if_pos rfl]
theorem loose_line {q : QuadL} (h : quadN q = 0) {bl g : List UInt8} (hb : ∀ x ∈ bl, blankC x = true) (hg : looseB g false = true) (he : ∀ c ∈ g, eolC c = false) : lineAt (looseL bl q ++ g) = .inl (some q) := by
 obtain ⟨_, h2, _, _, _, _⟩ := line_cases h
 have hd : (looseL bl q ++ g).drop bl.length = textF q.s ++ ((sepF bl q.s ++ bl) ++ (textF q.p ++ ((sepF bl q.p ++ bl) ++ (textF q.o ++ ((sepF bl q.o ++ bl) ++ ((if q.g = noTerm then [] else textF q.g ++ (sepF bl q.g ++ bl)) ++ 46 :: g)))))) := by
   have e : looseL bl q ++ g = bl ++ (textF q.s ++ ((sepF bl q.s ++ bl) ++ (textF q.p ++ ((sepF bl q.p ++ bl) ++ (textF q.o ++ ((sepF bl q.o ++ bl) ++ ((if q.g = noTerm then [] else textF q.g ++ (sepF bl q.g ++ bl)) ++ 46 :: g))))))) := by
     unfold looseL putT
     split <;> simp [List.append_assoc]
   rw [e, List.drop_left]
 obtain ⟨n, hs, ht⟩ := stmt_loose h hb hd
 obtain ⟨c, r, ec, nc, n35, _⟩ := head_ok h2
 rw [ec, List.cons_append] at hd
 have hk : blkF (looseL bl q ++ g) 0 = bl.length := by
   have hd0 : (looseL bl q ++ g).drop 0 = bl ++ (looseL bl q ++ g).drop bl.length := by
     rw [List.drop_zero]
     have : looseL bl q ++ g = bl ++ (looseL bl q ++ g).drop bl.length := by
       have e2 : ∃ y, looseL bl q ++ g = bl ++ y := by unfold looseL putT; simp only [List.append_assoc]; exact ⟨_, rfl⟩
       obtain ⟨y, hy⟩ := e2
       rw [hy, List.drop_left]
     exact this
   rw [hd] at hd0
   rw [blk_many nc bl 0 hb hd0]; omega
 obtain ⟨g1, g2, _⟩ := drop_head hd
 unfold lineAt
 rw [hk, g2, if_pos ⟨g1, n35⟩, hs]
 simp only
 rw [rest_loose (by rw [ht]; exact hg) (by rw [ht]; exact he)]
end Go.Proofs.YtdegonmkikfghaaGreatDoor
namespace Go.Proofs.YtdegonmkikfghaaGreatDoor
open Go.RowKit
set_option maxRecDepth 100000
theorem eol_blank {x : UInt8} (h : blankC x = true) : eolC x = false := by
 rcases blank_iff.1 h with rfl | rfl <;> decide
theorem eol_put {bl : List UInt8} {t : TermL} (hb : ∀ x ∈ bl, blankC x = true) (ht : termN t = 0) : ∀ c ∈ putT bl t, eolC c = false := by
 intro c hc
 unfold putT at hc
 rcases List.mem_append.1 hc with hc | hc
 · exact eol_blank (hb c hc)
 · rcases List.mem_append.1 hc with hc | hc
   · exact eol_text ht c hc
   · exact eol_blank (sep_blank hb t c (List.mem_append_left _ hc))
theorem eol_loose {bl : List UInt8} {q : QuadL} (h : quadN q = 0) (hb : ∀ x ∈ bl, blankC x = true) : ∀ c ∈ looseL bl q, eolC c = false := by
 obtain ⟨_, h2, _, h4, h5, h6⟩ := line_cases h
 intro c hc
 unfold looseL at hc
 rcases List.mem_append.1 hc with hc | hc
 · exact eol_put hb h2 c hc
 rcases List.mem_append.1 hc with hc | hc
 · exact eol_put hb h4 c hc
 rcases List.mem_append.1 hc with hc | hc
 · exact eol_put hb h5 c hc
 rcases List.mem_append.1 hc with hc | hc
 · split at hc
   · cases hc
   · next hg => exact eol_put hb (h6.resolve_left hg).2 c hc
 · rcases List.mem_append.1 hc with hc | hc
   · exact eol_blank (hb c hc)
   · rw [List.mem_singleton.1 hc]; decide
def bodyL (gap bl : List UInt8) : List QuadL -> List UInt8
 | [] => []
 | q :: qs => gap ++ 10 :: (looseL bl q ++ bodyL gap bl qs)
theorem bodyL_snoc (gap bl : List UInt8) (q : QuadL) : ∀ qs, bodyL gap bl (qs ++ [q]) = bodyL gap bl qs ++ (gap ++ 10 :: looseL bl q)
 | [] => by simp [bodyL]
 | x :: qs => by
   rw [List.cons_append, bodyL, bodyL_snoc gap bl q qs, bodyL]
   simp [List.append_assoc]
theorem reads_body {gap bl : List UInt8} (hg : looseB gap false = true) (hb : ∀ x ∈ bl, blankC x = true) : ∀ (qs : List QuadL) (x : List UInt8) (av : List QuadL), (∀ q ∈ qs, quadN q = 0) -> (∀ g, looseB g false = true -> Reads (x ++ g) av) -> Reads (x ++ (bodyL gap bl qs ++ 10 :: gap)) (av ++ qs)
 | [], x, av, _, hx => by
   have h0 := hx [] rfl
   rw [List.append_nil] at h0
   exact reads_two (by decide) h0 (reads_loose gap.length gap (Nat.le_refl _) hg)
 | q :: qs, x, av, hq, hx => by
   have h0 := hq q (List.mem_cons_self ..)
   have ih := reads_body hg hb qs (looseL bl q) [q] (fun y hy => hq y (List.mem_cons_of_mem _ hy)) (fun g hg' => reads_behind (eol_loose h0 hb) hg' (fun g' a b => loose_line h0 hb a b))
   have h1 := reads_two (d := 10) (by decide) (hx gap hg) ih
   have e : x ++ (bodyL gap bl (q :: qs) ++ 10 :: gap) = (x ++ gap) ++ 10 :: (looseL bl q ++ (bodyL gap bl qs ++ 10 :: gap)) := by
     simp [bodyL, List.append_assoc]
   rw [e]
   simpa using h1
theorem parse_loose {gap bl : List UInt8} {l qs : List QuadL} (hg : looseB gap false = true) (hb : ∀ x ∈ bl, blankC x = true) (hf : Fine l) (hm : ∀ x, x ∈ qs ↔ x ∈ l) : parseF (bodyL gap bl qs ++ 10 :: gap) = .inl l := by
 have h := reads_body hg hb qs [] [] (fun q hq => hf.2.1 q ((hm q).1 hq)) (fun g h => reads_loose g.length g (Nat.le_refl _) h)
 rw [List.nil_append, List.nil_append] at h
 rw [parse_reads h]
 exact congrArg Sum.inl (setQ_unique hf.2.2 (fun x => (hm x).symm)).symm
end Go.Proofs.YtdegonmkikfghaaGreatDoor
namespace Go.Proofs.YtdegonmkikfghaaGreatDoor
open Go.RowKit
set_option maxRecDepth 100000
def LinesAt (M : Nat) (l : List UInt8) (i : Nat) : Prop := ∀ x ∈ linesL l i, x.2.length <= M
theorem linesAt_drop (M : Nat) (l : List UInt8) (b : Nat) : ∀ (k j : Nat), (l.drop b).length - j <= k -> LinesAt M (l.drop b) j -> LinesAt M l (b + j)
 | k, j, hk, h => by
   have hlen : (l.drop b).length = l.length - b := by simp
   by_cases hl : l.length <= b + j
   · unfold LinesAt; rw [linesL_end hl]; intro x hx; cases hx
   have he := eolF_drop l b (l.drop b).length j (by omega)
   have hc : cutF l (b + j) (eolF l (b + j)) = cutF (l.drop b) j (eolF (l.drop b) j) := by
     unfold cutF
     rw [he, List.drop_drop]
     congr 1
     omega
   unfold LinesAt at h ⊢
   rw [linesL_step (by omega)] at h
   rw [linesL_step (by omega)]
   have ih : LinesAt M l (eolF l (b + j) + 1) := by
     rw [he, Nat.add_assoc]
     have := eolF_ge (l.drop b) j
     match k, hk with
     | 0, hk => omega
     | k + 1, hk => exact linesAt_drop M l b k (eolF (l.drop b) j + 1) (by omega) (fun x hx => h x (List.mem_cons_of_mem _ hx))
   intro x hx
   rcases List.mem_cons.1 hx with rfl | hx
   · show (cutF l (b + j) (eolF l (b + j))).length <= M
     rw [hc]
     exact h _ (List.mem_cons_self ..)
   · exact ih x hx
theorem linesAt_app {M : Nat} {s t : List UInt8} {d : UInt8} (hd : eolC d = true) (ht : LinesAt M (s ++ d :: t) (s.length + 1)) : ∀ (k i : Nat), s.length + 1 - i <= k -> i <= s.length + 1 -> LinesAt M s i -> LinesAt M (s ++ d :: t) i
 | k, i, hk, hi, h => by
   have hlen : (s ++ d :: t).length = s.length + (t.length + 1) := by simp
   by_cases h1 : i = s.length + 1
   · subst h1; exact ht
   by_cases h2 : i = s.length
   · subst h2
     have he : eolF (s ++ d :: t) s.length = s.length := eolF_hit (by omega) (by rw [getD_app_at]; exact hd)
     unfold LinesAt
     rw [linesL_step (by omega), he]
     intro x hx
     rcases List.mem_cons.1 hx with rfl | hx
     · show (cutF _ s.length s.length).length <= M
       unfold cutF; rw [Nat.sub_self, List.take_zero]; exact Nat.zero_le _
     · exact ht x hx
   have hb := eolF_bound s s.length i (by omega) (by omega)
   have he := eolF_app (s := s) (t := t) hd s.length i (by omega) (by omega)
   have hc : cutF (s ++ d :: t) i (eolF (s ++ d :: t) i) = cutF s i (eolF s i) := by
     unfold cutF
     rw [he, List.drop_append_of_le_length (by omega), List.take_append_of_le_length (by simp; omega)]
   unfold LinesAt at h ⊢
   rw [linesL_step (by omega)] at h
   rw [linesL_step (by omega), hc, he]
   have ih : LinesAt M (s ++ d :: t) (eolF s i + 1) := by
     match k, hk with
     | 0, hk => omega
     | k + 1, hk => exact linesAt_app hd ht k (eolF s i + 1) (by omega) (by omega) (fun x hx => h x (List.mem_cons_of_mem _ hx))
   intro x hx
   rcases List.mem_cons.1 hx with rfl | hx
   · exact h _ (List.mem_cons_self ..)
   · exact ih x hx
theorem linesAt_two {M : Nat} {s t : List UInt8} {d : UInt8} (hd : eolC d = true) (hs : LinesAt M s 0) (ht : LinesAt M t 0) : LinesAt M (s ++ d :: t) 0 := by
 have h3 : (s ++ d :: t).drop (s.length + 1) = t := by rw [<- List.drop_drop, List.drop_left]; rfl
 have h2 := linesAt_drop M (s ++ d :: t) (s.length + 1) (s ++ d :: t).length 0 (by simp; omega) (by rw [h3]; exact ht)
 rw [Nat.add_zero] at h2
 exact linesAt_app hd h2 (s.length + 1) 0 (by omega) (by omega) hs
theorem linesAt_short {M : Nat} {l : List UInt8} (h : l.length <= M) : LinesAt M l 0 := fun x hx => Nat.le_trans (linesL_mem l l.length 0 (by omega) x hx).2 h
theorem text_len' {t : TermL} (h : termN t = 0) : (textF t).length <= 786500 := (text_len h).1
theorem put_len {bl : List UInt8} {t : TermL} (ht : termN t = 0) : (putT bl t).length <= 786501 + bl.length := by
 have := text_len' ht
 have h : (sepF bl t).length <= 1 := by unfold sepF; split <;> simp
 unfold putT
 rw [List.length_append, List.length_append]
 omega
theorem loose_len {bl : List UInt8} {q : QuadL} (h : quadN q = 0) : (looseL bl q).length <= 3146100 + 5 * bl.length := by
 obtain ⟨_, h2, _, h4, h5, h6⟩ := line_cases h
 have a := put_len (bl := bl) h2
 have b := put_len (bl := bl) h4
 have c := put_len (bl := bl) h5
 have d : (if q.g = noTerm then [] else putT bl q.g).length <= 786501 + bl.length := by
   split
   · exact Nat.zero_le _
   · next hg => exact put_len (h6.resolve_left hg).2
 unfold looseL
 simp only [List.length_append, List.length_cons, List.length_nil]
 omega
theorem body_lines {gap bl : List UInt8} (hb : bl.length + gap.length <= 1000) : ∀ (qs : List QuadL) (x : List UInt8), (∀ q ∈ qs, quadN q = 0) -> x.length <= 3151100 -> LinesAt 3152100 (x ++ (bodyL gap bl qs ++ 10 :: gap)) 0
 | [], x, _, hx => linesAt_two (d := 10) (by decide) (linesAt_short (by omega)) (linesAt_short (by omega))
 | q :: qs, x, hq, hx => by
   have h0 := loose_len (bl := bl) (hq q (List.mem_cons_self ..))
   have ih := body_lines hb qs (looseL bl q) (fun y hy => hq y (List.mem_cons_of_mem _ hy)) (by omega)
   have e : x ++ (bodyL gap bl (q :: qs) ++ 10 :: gap) = (x ++ gap) ++ 10 :: (looseL bl q ++ (bodyL gap bl qs ++ 10 :: gap)) := by
     simp [bodyL, List.append_assoc]
   rw [e]
   exact linesAt_two (by decide) (linesAt_short (by rw [List.length_append]; omega)) ih
end Go.Proofs.YtdegonmkikfghaaGreatDoor
namespace Go.Proofs.YtdegonmkikfghaaGreatDoor
open Go.RowKit
set_option maxRecDepth 100000
def pickK (n : Nat) (ord : List Int) (i : Nat) : Nat := if i < n then n - 1 - i else ((ord.getD (i - n) 0 % 18446744073709551616) % (n : Int)).toNat
theorem pickK_lt {n : Nat} (ord : List Int) (i : Nat) (h : 0 < n) : pickK n ord i < n := by
 unfold pickK
 split
 · omega
 · have h1 := Int.emod_nonneg (ord.getD (i - n) 0 % 18446744073709551616) (show (n : Int) ≠ 0 by omega)
   have h2 := Int.emod_lt_of_pos (ord.getD (i - n) 0 % 18446744073709551616) (show (0 : Int) < n by omega)
   omega
def pickQ (l : List QuadL) (ord : List Int) (i : Nat) : QuadL := l.getD (pickK l.length ord i) noQuad
theorem pickQ_get {l : List QuadL} (ord : List Int) (i k : Nat) (hk : pickK l.length ord i = k) (h : k < l.length) : pickQ l ord i = l[k] := by
 unfold pickQ
 rw [hk]
 simp [h]
theorem pickQ_mem {l : List QuadL} (ord : List Int) (i : Nat) (h : 0 < l.length) : pickQ l ord i ∈ l := by
 have hk := pickK_lt ord i h
 rw [pickQ_get ord i _ rfl hk]
 exact List.getElem_mem _
def picks (l : List QuadL) (ord : List Int) : Nat -> List QuadL
 | 0 => []
 | k + 1 => picks l ord k ++ [pickQ l ord k]
theorem picks_len (l : List QuadL) (ord : List Int) : ∀ k, (picks l ord k).length = k
 | 0 => rfl
 | k + 1 => by rw [picks, List.length_append, picks_len l ord k]; rfl
theorem picks_sub {l : List QuadL} (ord : List Int) (h : 0 < l.length) : ∀ k, ∀ x ∈ picks l ord k, x ∈ l
 | 0, x, hx => by cases hx
 | k + 1, x, hx => by
   rcases List.mem_append.1 hx with hx | hx
   · exact picks_sub ord h k x hx
   · rw [List.mem_singleton.1 hx]; exact pickQ_mem ord k h
theorem picks_has {l : List QuadL} (ord : List Int) {i : Nat} : ∀ k, i < k -> pickQ l ord i ∈ picks l ord k
 | 0, h => by omega
 | k + 1, h => by
   rw [picks]
   by_cases he : i = k
   · rw [he]; exact List.mem_append_right _ (List.mem_singleton.2 rfl)
   · exact List.mem_append_left _ (picks_has ord k (by omega))
theorem picks_all {l : List QuadL} (ord : List Int) {k : Nat} (hk : l.length <= k) : ∀ x ∈ l, x ∈ picks l ord k := by
 intro x hx
 obtain ⟨j, hj, rfl⟩ := List.getElem_of_mem hx
 have h := picks_has (l := l) ord (i := l.length - 1 - j) k (by omega)
 rwa [pickQ_get ord _ j (by unfold pickK; rw [if_pos (by omega)]; omega) hj] at h
theorem picks_mem {l : List QuadL} (ord : List Int) {k : Nat} (hl : 0 < l.length) (hk : l.length <= k) (x : QuadL) : x ∈ picks l ord k ↔ x ∈ l := ⟨picks_sub ord hl k x, picks_all ord hk x⟩
def slotT (q : QuadL) (j : Nat) : TermL := if j = 0 then q.s else if j = 1 then q.p else if j = 2 then q.o else q.g
def pieceL (bl : List UInt8) (t : TermL) : List UInt8 := if t.kind = 0 then [] else putT bl t
def partL (bl : List UInt8) (q : QuadL) : Nat -> List UInt8
 | 0 => []
 | j + 1 => partL bl q j ++ pieceL bl (slotT q j)
theorem kind_some {t : TermL} (ht : termN t = 0) : t.kind ≠ 0 := by
 obtain ⟨c, r, _, h⟩ := text_head ht
 rcases h with ⟨h, _⟩ | ⟨h, _⟩ | ⟨h, _⟩ <;> omega
theorem piece_some {bl : List UInt8} {t : TermL} (ht : termN t = 0) : pieceL bl t = putT bl t := if_neg (kind_some ht)
theorem loose_part {bl : List UInt8} {q : QuadL} (h : quadN q = 0) : looseL bl q = partL bl q 4 ++ (bl ++ [46]) := by
 obtain ⟨_, h2, _, h4, h5, h6⟩ := line_cases h
 have hg : pieceL bl q.g = if q.g = noTerm then [] else putT bl q.g := by
   by_cases hq : q.g = noTerm
   · rw [if_pos hq, hq]; rfl
   · rw [if_neg hq]; exact piece_some (h6.resolve_left hq).2
 have e : partL bl q 4 = ((([] ++ pieceL bl q.s) ++ pieceL bl q.p) ++ pieceL bl q.o) ++ pieceL bl q.g := rfl
 rw [e, piece_some h2, piece_some h4, piece_some h5, hg]
 unfold looseL
 simp [List.append_assoc]
theorem slot_ok {q : QuadL} (h : quadN q = 0) (j : Nat) : (slotT q j).kind = 0 \/ termN (slotT q j) = 0 := by
 obtain ⟨_, h2, _, h4, h5, h6⟩ := line_cases h
 unfold slotT
 split
 · exact .inr h2
 split
 · exact .inr h4
 split
 · exact .inr h5
 · rcases h6 with h6 | h6
   · exact .inl (by rw [h6]; rfl)
   · exact .inr h6.2
theorem piece_len {bl : List UInt8} {q : QuadL} (h : quadN q = 0) (j : Nat) : (pieceL bl (slotT q j)).length <= 786501 + bl.length := by
 unfold pieceL
 split
 · exact Nat.zero_le _
 · next hk => exact put_len ((slot_ok h j).resolve_left hk)
theorem part_len {bl : List UInt8} {q : QuadL} (h : quadN q = 0) : ∀ j, (partL bl q j).length <= j * (786501 + bl.length)
 | 0 => Nat.zero_le _
 | j + 1 => by
   have h1 := part_len (bl := bl) h j
   have h2 := piece_len (bl := bl) h j
   rw [partL, List.length_append, Nat.succ_mul]
   omega
theorem body_len {gap bl : List UInt8} (hb : bl.length + gap.length <= 1000) : ∀ (qs : List QuadL), (∀ q ∈ qs, quadN q = 0) -> (bodyL gap bl qs).length <= qs.length * 3152200
 | [], _ => Nat.zero_le _
 | q :: qs, hq => by
   have h0 := loose_len (bl := bl) (hq q (List.mem_cons_self ..))
   have ih := body_len hb qs (fun y hy => hq y (List.mem_cons_of_mem _ hy))
   rw [bodyL, List.length_append, List.length_cons, List.length_append, List.length_cons, Nat.succ_mul]
   omega
end Go.Proofs.YtdegonmkikfghaaGreatDoor
