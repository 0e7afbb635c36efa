/-
  Tokens of a text: other blanks between the tokens. No program in sight. By an AI agent.
-/
import Derived.Test.YtdhmpakhdhdebaaGreatDoorZMoreLexisGaps
import Derived.Test.YtdhmpakhdhdebaaGreatDoorZLexL0
import Derived.Test.YtdhmpakhdhdebaaGreatDoorZTextBack1
namespace Go.Proofs.YtdhmpakhdhdebaaGreatDoor
open Go.RowKit
set_option maxRecDepth 100000
def blanksM : List UInt8 -> Bool -> Option Bool
 | [], i => some i
 | c :: t, i => if eolC c = true then blanksM t false else if c = 35 then blanksM t true else if c = 32 \/ c = 9 \/ i = true then blanksM t i else none
def blanksF (l : List UInt8) (last : Bool) : Bool := match blanksM l false with
 | none => false
 | some i => last || !i
theorem blanksM_app (a b : List UInt8) : ∀ i, blanksM (a ++ b) i = (blanksM a i).bind (blanksM b) := by
 induction a with
 | nil => intro i; rfl
 | cons c a ih =>
   intro i
   rw [List.cons_append]
   unfold blanksM
   split
   · exact ih _
   · split
     · exact ih _
     · split
       · exact ih _
       · rfl
theorem blanksM_stop {c : UInt8} {t : List UInt8} {i : Bool} (h : blanksM (c :: t) false = some i) : stopC c = true := by
 unfold blanksM at h
 unfold stopC blankC
 split at h
 · next he =>
   unfold eolC at he
   simp only [Bool.or_eq_true, beq_iff_eq] at he
   rcases he with rfl | rfl <;> decide
 · split at h
   · next he => rw [he]; decide
   · split at h
     · next he =>
       rcases he with rfl | rfl | he
       · decide
       · decide
       · cases he
     · cases h
def gapI (l : List UInt8) (i : Bool) (j : Nat) : Nat := if i = true then gapF l (eolF l j) else gapF l j
theorem eol_blank {c : UInt8} (h : eolC c = true) : blankC c = true := by
 unfold eolC at h
 unfold blankC
 simp only [Bool.or_eq_true, beq_iff_eq] at h ⊢
 rcases h with h | h
 · exact .inr h
 · exact .inl (.inr h)
theorem gapI_run (L : List UInt8) : ∀ (R : List UInt8) (j : Nat) (i i' : Bool) (x : List UInt8), L.drop j = R ++ x -> blanksM R i = some i' -> gapI L i j = gapI L i' (j + R.length)
 | [], j, i, i', x, hd, h => by unfold blanksM at h; cases h; rfl
 | c :: t, j, i, i', x, hd, h => by
   have hj : j < L.length := by
     have := congrArg List.length hd
     simp at this
     omega
   have hc : L.getD j 0 = c := by
     have := congrArg (fun y => y.getD 0 0) hd
     simpa [List.getD_eq_getElem?_getD] using this
   have hd2 : L.drop (j + 1) = t ++ x := by
     have := congrArg (fun y => y.drop 1) hd
     simpa [List.drop_drop] using this
   have ih := fun i2 (h2 : blanksM t i2 = some i') => gapI_run L t (j + 1) i2 i' x hd2 h2
   have e : j + (c :: t).length = j + 1 + t.length := by simp; omega
   rw [e]
   unfold blanksM at h
   split at h
   · next he =>
     rw [<- ih false h]
     unfold gapI
     cases i with
     | false => rw [if_neg (by simp), if_neg (by simp), gapF_blank hj (by rw [hc]; exact eol_blank he)]
     | true => rw [if_pos rfl, if_neg (by simp), eolF_hit hj (by rw [hc]; exact he), gapF_blank hj (by rw [hc]; exact eol_blank he)]
   · next he =>
     have hef : eolC (L.getD j 0) = false := by rw [hc]; simpa using he
     split at h
     · next h35 =>
       rw [<- ih true h]
       unfold gapI
       cases i with
       | false => rw [if_neg (by simp), if_pos rfl, gapF_hash hj (by rw [hc]; exact h35)]
       | true => rw [if_pos rfl, if_pos rfl, eolF_go hj hef]
     · split at h
       · next hb =>
         rw [<- ih i h]
         unfold gapI
         cases i with
         | false =>
           rw [if_neg (by simp), if_neg (by simp), gapF_blank hj]
           rw [hc]
           rcases hb with rfl | rfl | hb
           · decide
           · decide
           · cases hb
         | true => rw [if_pos rfl, if_pos rfl, eolF_go hj hef]
       · cases h
theorem cut_cons {l : List UInt8} {i g : Nat} (hi : i < l.length) (hg : i < g) : cutF l i g = l.getD i 0 :: cutF l (i + 1) g := by
 unfold cutF
 rw [List.drop_eq_getElem_cons hi, show g - i = (g - (i + 1)) + 1 by omega, List.take_succ_cons]
 simp [List.getD_eq_getElem?_getD, hi]
theorem gapI_blanks (l : List UInt8) : ∀ (c i : Nat) (b : Bool), l.length - i <= c -> i <= l.length -> i <= gapI l b i /\ gapI l b i <= l.length /\ ∃ b', blanksM (cutF l i (gapI l b i)) b = some b' /\ (gapI l b i < l.length -> b' = false)
 | c, i, b, hc, hi => by
   by_cases hl : l.length <= i
   · have hg : gapI l b i = i := by
       unfold gapI
       split
       · rw [eolF_end hl, gapF_end hl]
       · rw [gapF_end hl]
     rw [hg]
     refine ⟨Nat.le_refl _, hi, b, ?_, fun h => by omega⟩
     rw [cut_nil]; rfl
   match c, hc with
   | 0, hc => omega
   | c + 1, hc =>
     have hlt : i < l.length := by omega
     have step : ∀ b2, gapI l b i = gapI l b2 (i + 1) -> (∀ t, blanksM (l.getD i 0 :: t) b = blanksM t b2) -> i <= gapI l b i /\ gapI l b i <= l.length /\ ∃ b', blanksM (cutF l i (gapI l b i)) b = some b' /\ (gapI l b i < l.length -> b' = false) := fun b2 hg hm => by
       obtain ⟨h1, h2, b', h3, h4⟩ := gapI_blanks l c (i + 1) b2 (by omega) (by omega)
       rw [hg]
       refine ⟨by omega, h2, b', ?_, h4⟩
       rw [cut_cons hlt (by omega), hm]
       exact h3
     cases b with
     | false =>
       cases hb : blankC (l.getD i 0) with
       | true =>
         refine step false (by unfold gapI; rw [if_neg (by simp), if_neg (by simp), gapF_blank hlt hb]) (fun t => ?_)
         rcases blank_cases hb with h | h | h | h <;> rw [h] <;> rfl
       | false =>
         by_cases h35 : l.getD i 0 = 35
         · refine step true (by unfold gapI; rw [if_neg (by simp), if_pos rfl, gapF_hash hlt h35]) (fun t => ?_)
           rw [h35]; rfl
         · have hg : gapI l false i = i := by unfold gapI; rw [if_neg (by simp), gapF_stop hlt hb h35]
           rw [hg]
           refine ⟨Nat.le_refl _, hi, false, ?_, fun _ => rfl⟩
           rw [cut_nil]; rfl
     | true =>
       cases he : eolC (l.getD i 0) with
       | true =>
         refine step false (by unfold gapI; rw [if_pos rfl, if_neg (by simp), eolF_hit hlt he, gapF_blank hlt (eol_blank he)]) (fun t => ?_)
         conv => lhs; unfold blanksM
         rw [if_pos he]
       | false =>
         refine step true (by unfold gapI; rw [if_pos rfl, if_pos rfl, eolF_go hlt he]) (fun t => ?_)
         conv => lhs; unfold blanksM
         rw [if_neg (by rw [he]; simp)]
         split
         · rfl
         · rw [if_pos (.inr (.inr rfl))]
theorem gap_blanks (l : List UInt8) {i : Nat} (hi : i <= l.length) : ∃ b, blanksM (cutF l i (gapF l i)) false = some b /\ (gapF l i < l.length -> b = false) := by
 obtain ⟨_, _, b, h1, h2⟩ := gapI_blanks l l.length i false (by omega) hi
 exact ⟨b, h1, h2⟩
def looseF (s gap : List UInt8) : List TokL -> Nat -> List UInt8
 | [], at_ => s.drop at_
 | t :: ts, at_ => cutF s at_ t.at_.toNat ++ (gap ++ (10 :: (cutF s t.at_.toNat t.fin.toNat ++ looseF s gap ts t.fin.toNat)))
def bareL (t : TokL) : TokL := { t with at_ := 0, fin := 0 }
theorem toks_nil {l : List UInt8} {i : Nat} (hi : i <= l.length) (h : toksF l false i = ([], none)) : gapF l i = l.length := by
 obtain ⟨x, hx⟩ : ∃ x, stepG l false i = x := ⟨_, rfl⟩
 rcases x with t | f
 · by_cases hk : t.kind = 0
   · rcases ((step_at (less := false) hi).1 t hx).1 with ⟨_, hg⟩ | ⟨_, _, ⟨_, _, hk1, _⟩, _⟩
     · exact hg
     · omega
   · rw [(toksF_go hi hx hk).1] at h; cases h
 · rw [toksF_bad hx] at h; cases h
theorem toks_cons {l : List UInt8} {i : Nat} {t : TokL} {ts : List TokL} (hi : i <= l.length) (hu : Ut l i) (h : toksF l false i = (t :: ts, none)) : TokOf l t (gapF l i) t.fin.toNat /\ i <= gapF l i /\ toksF l false t.fin.toNat = (ts, none) := by
 obtain ⟨x, hx⟩ : ∃ x, stepG l false i = x := ⟨_, rfl⟩
 rcases x with t' | f
 · by_cases hk : t'.kind = 0
   · rw [toksF_end hx hk] at h; cases h
   · obtain ⟨hgo, h1, h2, h3⟩ := toksF_go hi hx hk
     obtain ⟨e, he, hie⟩ := next_tok hi hu hx hk
     rw [hgo] at h
     have e1 := congrArg Prod.fst h
     have e2 := congrArg Prod.snd h
     simp only [List.cons.injEq] at e1
     obtain ⟨rfl, e1⟩ := e1
     refine ⟨?_, hie, Prod.ext e1 e2⟩
     have : e = t'.fin.toNat := by have := he.fin; omega
     rw [<- this]; exact he
 · rw [toksF_bad hx] at h; cases h
theorem loose_head {s gap : List UInt8} {gi : Bool} (hgap : blanksM gap false = some gi) : ∀ (ts : List TokL) (at_ : Nat), at_ <= s.length -> Ut s at_ -> toksF s false at_ = (ts, none) -> looseF s gap ts at_ = [] \/ ∃ c t, looseF s gap ts at_ = c :: t /\ stopC c = true
 | [], at_, hat, hu, ht => by
   have hg := toks_nil hat ht
   obtain ⟨b, h1, _⟩ := gap_blanks s hat
   rw [hg] at h1
   have e : cutF s at_ s.length = s.drop at_ := by unfold cutF; rw [List.take_of_length_le (by simp)]
   rw [e] at h1
   show s.drop at_ = [] \/ _
   cases hx : s.drop at_ with
   | nil => exact .inl rfl
   | cons c t => rw [hx] at h1; exact .inr ⟨c, t, by show s.drop at_ = _; exact hx, blanksM_stop h1⟩
 | t :: ts, at_, hat, hu, ht => by
   obtain ⟨hT, hle, _⟩ := toks_cons hat hu ht
   obtain ⟨b, h1, _⟩ := gap_blanks s hat
   have ha : t.at_.toNat = gapF s at_ := by have := hT.at_; omega
   right
   show ∃ c u, cutF s at_ t.at_.toNat ++ (gap ++ (10 :: _)) = c :: u /\ _
   rw [ha]
   cases hx : cutF s at_ (gapF s at_) with
   | cons c u => rw [hx] at h1; exact ⟨c, _, rfl, blanksM_stop h1⟩
   | nil =>
     cases hy : gap with
     | cons c u => rw [hy] at hgap; exact ⟨c, _, rfl, blanksM_stop hgap⟩
     | nil => exact ⟨10, _, rfl, by decide⟩
theorem loose_toks {s gap L : List UInt8} {gi : Bool} (hgap : blanksM gap false = some gi) : ∀ (ts : List TokL) (at_ j : Nat), at_ <= s.length -> j <= L.length -> Ut s at_ -> toksF s false at_ = (ts, none) -> L.drop j = looseF s gap ts at_ -> ∃ ts', toksF L false j = (ts', none) /\ ts'.map bareL = ts.map bareL
 | [], at_, j, hat, hj, hu, ht, hd => by
   have hg := toks_nil hat ht
   obtain ⟨b, h1, _⟩ := gap_blanks s hat
   rw [hg] at h1
   have e : cutF s at_ s.length = s.drop at_ := by unfold cutF; rw [List.take_of_length_le (by simp)]
   rw [e] at h1
   have hd2 : L.drop j = s.drop at_ ++ [] := by rw [List.append_nil]; exact hd
   have hrun := gapI_run L (s.drop at_) j false b [] hd2 h1
   have hlen : j + (s.drop at_).length = L.length := by
     have := congrArg List.length hd
     rw [show looseF s gap [] at_ = s.drop at_ from rfl] at this
     rw [List.length_drop] at this
     omega
   have hgL : gapF L j = L.length := by
     have : gapI L false j = gapF L j := by unfold gapI; rw [if_neg (by simp)]
     rw [<- this, hrun, hlen]
     unfold gapI
     split
     · rw [eolF_end (Nat.le_refl _), gapF_end (Nat.le_refl _)]
     · rw [gapF_end (Nat.le_refl _)]
   have hs : stepG L false j = .inl ⟨0, [], [], [], (L.length : Nat), (L.length : Nat)⟩ := by
     unfold stepG nextG
     rw [hgL, if_pos rfl]
     simp
   exact ⟨[], toksF_end hs rfl, rfl⟩
 | t :: ts, at_, j, hat, hj, hu, ht, hd => by
   obtain ⟨hT, hle, hrest⟩ := toks_cons hat hu ht
   obtain ⟨b, h1, h2⟩ := gap_blanks s hat
   have hlt := hT.lt
   have hel := hT.le
   have hb := h2 (by omega)
   subst hb
   have ha : t.at_.toNat = gapF s at_ := by have := hT.at_; omega
   have hd' : L.drop j = (cutF s at_ (gapF s at_) ++ (gap ++ [10])) ++ (cutF s (gapF s at_) t.fin.toNat ++ looseF s gap ts t.fin.toNat) := by
     rw [hd]
     show cutF s at_ t.at_.toNat ++ (gap ++ (10 :: (cutF s t.at_.toNat t.fin.toNat ++ _))) = _
     rw [ha]
     simp
   have hm : blanksM (cutF s at_ (gapF s at_) ++ (gap ++ [10])) false = some false := by
     rw [blanksM_app, h1]
     show blanksM (gap ++ [10]) false = some false
     rw [blanksM_app, hgap]
     rfl
   have hrun := gapI_run L _ j false false _ hd' hm
   have e0 : ∀ k, gapI L false k = gapF L k := fun k => by unfold gapI; rw [if_neg (by simp)]
   rw [e0, e0] at hrun
   obtain ⟨p, hp⟩ : ∃ p, j + (cutF s at_ (gapF s at_) ++ (gap ++ [10])).length = p := ⟨_, rfl⟩
   rw [hp] at hrun
   have hdp : L.drop p = cutF s (gapF s at_) t.fin.toNat ++ looseF s gap ts t.fin.toNat := by
     rw [<- hp, <- List.drop_drop, hd', List.drop_left]
   have hcl : (cutF s (gapF s at_) t.fin.toNat).length = t.fin.toNat - gapF s at_ := cutF_len2 hel
   have hpl : p + (t.fin.toNat - gapF s at_) <= L.length := by
     have := congrArg List.length hdp
     rw [List.length_drop, List.length_append, hcl] at this
     omega
   have hL : Like s (gapF s at_) L p (t.fin.toNat - gapF s at_) := by
     refine ⟨by omega, hpl, ?_⟩
     rw [hdp, List.take_append_of_le_length (by omega), List.take_of_length_le (by omega)]
     rfl
   have hdq : L.drop (p + (t.fin.toNat - gapF s at_)) = looseF s gap ts t.fin.toNat := by
     rw [<- List.drop_drop, hdp, <- hcl, List.drop_left]
   have hS : Stop L (p + (t.fin.toNat - gapF s at_)) := by
     rcases loose_head hgap ts t.fin.toNat hel hT.ue hrest with h | ⟨c, u, h, hc⟩
     · left
       have := congrArg List.length (hdq.trans h)
       simp at this
       omega
     · right
       have := congrArg (fun y => y.getD 0 0) (hdq.trans h)
       have e : L.getD (p + (t.fin.toNat - gapF s at_)) 0 = c := by simpa [List.getD_eq_getElem?_getD] using this
       rw [e]; exact hc
   have hsp := step_tok hT hL hS
   have hgp : gapF L p = p := by
     have h0 := hL.at (k := 0) (by omega)
     rw [Nat.add_zero, Nat.add_zero] at h0
     exact gapF_stop (by omega) (by rw [h0]; exact hT.blank) (by rw [h0]; exact hT.hash)
   have hsj : stepG L false j = .inl (moved t p (p + (t.fin.toNat - gapF s at_))) := by
     rw [<- hsp]
     unfold stepG nextG
     rw [hrun, hgp]
   have hk : (moved t p (p + (t.fin.toNat - gapF s at_))).kind ≠ 0 := by have := hT.kind; show t.kind ≠ 0; omega
   obtain ⟨hgo, _, _, _⟩ := toksF_go hj hsj hk
   have hf : (moved t p (p + (t.fin.toNat - gapF s at_))).fin.toNat = p + (t.fin.toNat - gapF s at_) := by show ((p + (t.fin.toNat - gapF s at_) : Nat) : Int).toNat = _; omega
   rw [hf] at hgo
   obtain ⟨ts', h3, h4⟩ := loose_toks hgap ts t.fin.toNat (p + (t.fin.toNat - gapF s at_)) hel hpl hT.ue hrest hdq
   rw [h3] at hgo
   refine ⟨_, hgo, ?_⟩
   rw [List.map_cons, List.map_cons, h4]
   rfl
theorem loose_utf {s gap : List UInt8} (hg : utfF gap 0 = -1) : ∀ (ts : List TokL) (at_ : Nat), at_ <= s.length -> Ut s at_ -> toksF s false at_ = (ts, none) -> utfF (looseF s gap ts at_) 0 = -1
 | [], at_, hat, hu, ht => by
   have := utf_drop s at_ s.length 0 (by simp)
   rw [Nat.add_zero] at this
   exact this.1 hu
 | t :: ts, at_, hat, hu, ht => by
   obtain ⟨hT, hle, hrest⟩ := toks_cons hat hu ht
   have hlt := hT.lt
   have hel := hT.le
   have ha : t.at_.toNat = gapF s at_ := by have := hT.at_; omega
   have ih := loose_utf hg ts t.fin.toNat hel hT.ue hrest
   have c1 := ut_cut hT.ua (by omega) s.length at_ (by omega) hu (Nat.le_refl _) hle
   have c2 := ut_cut hT.ue hel s.length (gapF s at_) (by omega) hT.ua (Nat.le_refl _) (by omega)
   rw [Nat.sub_self] at c1 c2
   show utfF (cutF s at_ t.at_.toNat ++ (gap ++ (10 :: (cutF s t.at_.toNat t.fin.toNat ++ looseF s gap ts t.fin.toNat)))) 0 = -1
   rw [ha]
   have h1 := ut_app ih (cutF s (gapF s at_) t.fin.toNat).length 0 (by omega) (by omega) c2
   have h2 : utfF ([10] ++ (cutF s (gapF s at_) t.fin.toNat ++ looseF s gap ts t.fin.toNat)) 0 = -1 := ut_app h1 1 0 (by simp) (by simp) (by decide +kernel)
   have h3 := ut_app h2 gap.length 0 (by omega) (by omega) hg
   exact ut_app h3 _ 0 (Nat.le_refl _) (by omega) c1
theorem loose_len {s gap : List UInt8} : ∀ (ts : List TokL) (at_ : Nat), at_ <= s.length -> Ut s at_ -> toksF s false at_ = (ts, none) -> (looseF s gap ts at_).length = s.length - at_ + ts.length * (gap.length + 1)
 | [], at_, hat, hu, ht => by show (s.drop at_).length = _; simp
 | t :: ts, at_, hat, hu, ht => by
   obtain ⟨hT, hle, hrest⟩ := toks_cons hat hu ht
   have hlt := hT.lt
   have hel := hT.le
   have ha : t.at_.toNat = gapF s at_ := by have := hT.at_; omega
   have ih := loose_len (gap := gap) ts t.fin.toNat hel hT.ue hrest
   show (cutF s at_ t.at_.toNat ++ (gap ++ (10 :: (cutF s t.at_.toNat t.fin.toNat ++ looseF s gap ts t.fin.toNat)))).length = _
   rw [List.length_append, List.length_append, List.length_cons, List.length_append, ih, cutF_len2 hel, cutF_len2 (by omega), ha, List.length_cons, Nat.add_mul, Nat.one_mul]
   omega
end Go.Proofs.YtdhmpakhdhdebaaGreatDoor
