/-
  Tokens of a text: a token's own bytes, behind which a blank or nothing stands, are that token. No program in sight. By an AI agent.
-/
import Derived.Test.YtdhmpakhdhdebaaGreatDoorZTerm1
namespace Go.Proofs.YtdhmpakhdhdebaaGreatDoor
open Go.RowKit
set_option maxRecDepth 100000
structure Like (l : List UInt8) (i : Nat) (l' : List UInt8) (i' m : Nat) : Prop where
 a : i + m <= l.length
 b : i' + m <= l'.length
 c : (l'.drop i').take m = (l.drop i).take m
def stopC (c : UInt8) : Bool := blankC c || c == 35
def Stop (l : List UInt8) (i : Nat) : Prop := l.length <= i \/ stopC (l.getD i 0) = true
theorem Like.at {l l' : List UInt8} {i i' m : Nat} (h : Like l i l' i' m) {k : Nat} (hk : k < m) : l'.getD (i' + k) 0 = l.getD (i + k) 0 := by
 have h1 := congrArg (fun x => x.getD k 0) h.c
 simpa [List.getD_eq_getElem?_getD, List.getElem?_take, hk] using h1
theorem Like.step {l l' : List UInt8} {i i' m k n : Nat} (h : Like l i l' i' m) (hk : k + n = m) : Like l (i + k) l' (i' + k) n := by
 refine ⟨by have := h.a; omega, by have := h.b; omega, ?_⟩
 have h1 := congrArg (fun x => x.drop k) h.c
 simp only [List.drop_take, List.drop_drop] at h1
 rw [show m - k = n by omega] at h1
 exact h1
theorem Like.front {l l' : List UInt8} {i i' m k : Nat} (h : Like l i l' i' m) (hk : k <= m) : Like l i l' i' k := by
 refine ⟨by have := h.a; omega, by have := h.b; omega, ?_⟩
 have h1 := congrArg (fun x => x.take k) h.c
 simpa only [List.take_take, Nat.min_eq_left hk] using h1
theorem Like.cut {l l' : List UInt8} {i i' m a b : Nat} (h : Like l i l' i' m) (hb : b <= m) (ha : a <= b) : cutF l' (i' + a) (i' + b) = cutF l (i + a) (i + b) := by
 have := ((h.front hb).step (k := a) (n := b - a) (by omega)).c
 unfold cutF
 rw [show i' + b - (i' + a) = b - a by omega, show i + b - (i + a) = b - a by omega]
 exact this
theorem Like.next {l l' : List UInt8} {i i' m k n : Nat} {v : Int} (h : Like l i l' i' m) (hq : nextAt l ((i + k : Nat) : Int) = (v, n)) (hn : n ≠ 0) (hk : k + n <= m) : nextAt l' ((i' + k : Nat) : Int) = (v, n) := by
 have h2 := (h.step (k := k) (n := m - k) (by omega)).c
 rw [nextAt_nat] at hq ⊢
 have h3 := nextP_long hq hn (show n <= m - k by omega)
 rw [<- h2] at h3
 have h4 := nextP_more ((l'.drop (i' + k)).drop (m - k)) h3 hn
 rwa [List.take_append_drop] at h4
theorem stop_cases {c : UInt8} (h : stopC c = true) : c = 32 \/ c = 9 \/ c = 13 \/ c = 10 \/ c = 35 := by
 unfold stopC blankC at h
 simp only [Bool.or_eq_true, beq_iff_eq] at h
 rcases h with (((h | h) | h) | h) | h <;> simp [h]
theorem stop_next {l : List UInt8} {i : Nat} (h : Stop l i) : ∃ v n, nextAt l (i : Int) = (v, n) /\ (n = 0 \/ (followB v = false /\ v ≠ 46 /\ v ≠ 58 /\ v ≠ 37 /\ v ≠ 92)) := by
 by_cases hl : l.length <= i
 · exact ⟨0, 0, nextAt_out (.inr (by omega)), .inl rfl⟩
 · rcases h with h | h
   · exact absurd h hl
   · have hc := stop_cases h
     refine ⟨_, _, at_low (by omega) (by rcases hc with h | h | h | h | h <;> rw [h] <;> decide), .inr ?_⟩
     rcases hc with h | h | h | h | h <;> rw [h] <;> decide
theorem stop_get {l : List UInt8} {i : Nat} (h : Stop l i) {p : UInt8 -> Bool} (h0 : p 0 = false) (hp : p 32 = false /\ p 9 = false /\ p 13 = false /\ p 10 = false /\ p 35 = false) : p (l.getD i 0) = false := by
 by_cases hl : l.length <= i
 · rw [List.getD_eq_getElem?_getD, List.getElem?_eq_none hl]; exact h0
 · rcases h with h | h
   · exact absurd h hl
   · rcases stop_cases h with h | h | h | h | h <;> rw [h]
     · exact hp.1
     · exact hp.2.1
     · exact hp.2.2.1
     · exact hp.2.2.2.1
     · exact hp.2.2.2.2
theorem scanI_like {l l' : List UInt8} {i i' m : Nat} (hL : Like l i l' i' m) : ∀ (d k e : Nat), m - k <= d -> scanI l (i + k) = .inl (i + e) -> e < m -> k <= e -> scanI l' (i' + k) = .inl (i' + e)
 | d, k, e, hd, hs, he, hk => by
   have ha := hL.a
   have hb := hL.b
   have hc := hL.at (k := k) (by omega)
   by_cases h62 : l.getD (i + k) 0 = 62
   · rw [scanI_hit (by omega) h62] at hs
     have : i + k = i + e := Sum.inl.inj hs
     rw [scanI_hit (by omega) (hc.trans h62), show k = e by omega]
   · cases hbd : badI (l.getD (i + k) 0) with
     | true => rw [scanI_bad (by omega) h62 hbd] at hs; cases hs
     | false =>
       rw [scanI_go (by omega) h62 hbd] at hs
       have hr := (scanI_bound l l.length (i + k + 1) (by omega) (by omega)).1 _ hs
       match d, hd with
       | 0, hd => omega
       | d + 1, hd =>
         rw [scanI_go (by omega) (by rw [hc]; exact h62) (by rw [hc]; exact hbd)]
         exact scanI_like hL d (k + 1) e (by omega) hs he (by omega)
def moved (t : TokL) (i e : Nat) : TokL := { t with at_ := (i : Nat), fin := (e : Nat) }
theorem iri_like {l l' : List UInt8} {i i' m : Nat} {t : TokL} (hL : Like l i l' i' m) (hi : i < l.length) (ht : iriG l i = .inl t) (hf : t.fin = ((i + m : Nat) : Int)) : iriG l' i' = .inl (moved t i' (i' + m)) := by
 unfold iriG at ht ⊢
 obtain ⟨x, hx⟩ : ∃ x, scanI l (i + 1) = x := ⟨_, rfl⟩
 have hb := scanI_bound l l.length (i + 1) (by omega) (by omega)
 rw [hx] at ht hb
 rcases x with e | p
 · simp only at ht
   have he := hb.1 e rfl
   obtain ⟨y, hy⟩ : ∃ y, unescF 2 (cutF l (i + 1) e) 0 = y := ⟨_, rfl⟩
   rw [hy] at ht
   rcases y with u | ⟨p, n⟩
   · simp only [Sum.inl.injEq] at ht
     subst ht
     simp only at hf
     obtain ⟨e, rfl⟩ : ∃ k, e = i + k := ⟨e - i, by omega⟩
     have hm : e + 1 = m := by omega
     rw [scanI_like hL m 1 e (by omega) hx (by omega) (by omega)]
     simp only
     rw [hL.cut (by omega) (by omega), hy, <- hm]
     rfl
   · cases ht
 · cases ht
theorem three_like {l l' : List UInt8} {i i' m k : Nat} (hL : Like l i l' i' m) (q : UInt8) (hk : k + 2 < m) : threeB l' q (i' + k) = threeB l q (i + k) := by
 have h0 := hL.at (k := k) (by omega)
 have h1 := hL.at (k := k + 1) (by omega)
 have h2 := hL.at (k := k + 2) (by omega)
 have ha := hL.a
 have hb := hL.b
 unfold threeB
 rw [h0, show i' + k + 1 = i' + (k + 1) by omega, show i' + k + 2 = i' + (k + 2) by omega, h1, h2, show i + k + 1 = i + (k + 1) by omega, show i + k + 2 = i + (k + 2) by omega, decide_eq_true (show i' + (k + 2) < l'.length by omega), decide_eq_true (show i + (k + 2) < l.length by omega)]
theorem close_like {l l' : List UInt8} {i i' m k : Nat} {b : Bool} (hL : Like l i l' i' m) (q : UInt8) (hk : k + markN b <= m) : closeB l' q b (i' + k) = closeB l q b (i + k) := by
 unfold closeB
 cases b with
 | true => rw [if_pos rfl, if_pos rfl]; exact three_like hL q (by simp [markN] at hk; omega)
 | false => rw [if_neg (by simp), if_neg (by simp), hL.at (k := k) (by simp [markN] at hk; omega)]
theorem scanQ_like {l l' : List UInt8} {i i' m : Nat} {b : Bool} (hL : Like l i l' i' m) (q : UInt8) : ∀ (d k e : Nat), m - k <= d -> scanQ l q b (i + k) = .inl (i + e) -> e + markN b <= m -> k <= e -> scanQ l' q b (i' + k) = .inl (i' + e)
 | d, k, e, hd, hs, he, hk => by
   have ha := hL.a
   have hb := hL.b
   have hm : 0 < markN b := by cases b <;> decide
   have hc := hL.at (k := k) (by omega)
   have hcl := close_like (b := b) hL q (k := k) (by omega)
   cases hcc : closeB l q b (i + k) with
   | true =>
     rw [scanQ_hit (by omega) hcc] at hs
     have : i + k = i + e := Sum.inl.inj hs
     rw [scanQ_hit (by omega) (hcl.trans hcc), show k = e by omega]
   | false =>
     match d, hd with
     | 0, hd => omega
     | d + 1, hd =>
       by_cases h9 : l.getD (i + k) 0 = 92
       · by_cases hx : b = true \/ l.length <= i + k + 1 \/ eolC (l.getD (i + k + 1) 0) = false
         · rw [scanQ_esc (by omega) hcc h9 hx] at hs
           have hr := (scanQ_bound l q b l.length (i + k + 2) (by omega)).1 _ hs
           have hc1 := hL.at (k := k + 1) (by omega)
           rw [scanQ_esc (by omega) (hcl.trans hcc) (hc.trans h9) (by
             rcases hx with h | h | h
             · exact .inl h
             · omega
             · exact .inr (.inr (by rw [show i' + k + 1 = i' + (k + 1) by omega, hc1]; exact h)))]
           exact scanQ_like hL q d (k + 2) e (by omega) hs he (by omega)
         · simp only [not_or, Bool.not_eq_true, Bool.not_eq_false] at hx
           obtain ⟨rfl, h1, h2⟩ := hx
           rw [scanQ_esc_eol (by omega) hcc h9 h2] at hs
           cases hs
       · by_cases hx : b = true \/ eolC (l.getD (i + k) 0) = false
         · rw [scanQ_go (by omega) hcc h9 hx] at hs
           have hr := (scanQ_bound l q b l.length (i + k + 1) (by omega)).1 _ hs
           rw [scanQ_go (by omega) (hcl.trans hcc) (by rw [hc]; exact h9) (by rw [hc]; exact hx)]
           exact scanQ_like hL q d (k + 1) e (by omega) hs he (by omega)
         · simp only [not_or, Bool.not_eq_true, Bool.not_eq_false] at hx
           obtain ⟨rfl, h1⟩ := hx
           rw [scanQ_eol (by omega) hcc h1] at hs
           cases hs
theorem quote_like {l l' : List UInt8} {i i' m : Nat} {t : TokL} (hL : Like l i l' i' m) (hS : Stop l' (i' + m)) (hi : i < l.length) (hq : l.getD i 0 = 34 \/ l.getD i 0 = 39) (ht : quoteG l i = .inl t) (hf : t.fin = ((i + m : Nat) : Int)) : quoteG l' i' = .inl (moved t i' (i' + m)) := by
 have hlen : i + markN (threeB l (l.getD i 0) i) <= l.length := by
   cases hb : threeB l (l.getD i 0) i with
   | false => show i + 1 <= l.length; omega
   | true =>
     unfold threeB at hb
     simp only [Bool.and_eq_true, decide_eq_true_eq] at hb
     show i + 3 <= l.length
     omega
 unfold quoteG at ht ⊢
 obtain ⟨b, hb⟩ : ∃ b, threeB l (l.getD i 0) i = b := ⟨_, rfl⟩
 have hm0 : 0 < markN b := by cases b <;> decide
 rw [hb] at ht hlen
 obtain ⟨x, hx⟩ : ∃ x, scanQ l (l.getD i 0) b (i + markN b) = x := ⟨_, rfl⟩
 have hbd := scanQ_bound l (l.getD i 0) b l.length (i + markN b) (by omega)
 rw [hx] at ht hbd
 rcases x with e | p
 · simp only at ht
   have he := hbd.1 e rfl
   obtain ⟨y, hy⟩ : ∃ y, unescF 1 (cutF l (i + markN b) e) 0 = y := ⟨_, rfl⟩
   rw [hy] at ht
   rcases y with u | ⟨p, n⟩
   · simp only [Sum.inl.injEq] at ht
     subst ht
     simp only at hf
     obtain ⟨e, rfl⟩ : ∃ k, e = i + k := ⟨e - i, by omega⟩
     have hm : e + markN b = m := by omega
     have h0 := hL.at (k := 0) (by omega)
     rw [Nat.add_zero, Nat.add_zero] at h0
     have hthree : threeB l' (l.getD i 0) i' = b := by
       by_cases h3 : 2 < m
       · have := three_like hL (k := 0) (l.getD i 0) (by omega)
         rw [Nat.add_zero, Nat.add_zero] at this
         exact this.trans hb
       · cases b with
         | true => simp [markN] at hm; omega
         | false =>
           have hm2 : m = 2 := by simp [markN] at hm he; omega
           have hst : (l'.getD (i' + 2) 0 == l.getD i 0) = false := by
             rw [hm2] at hS
             exact stop_get hS (p := fun c => c == l.getD i 0) (by rcases hq with h | h <;> rw [h] <;> decide) (by rcases hq with h | h <;> rw [h] <;> decide)
           unfold threeB
           rw [hst, Bool.and_false, Bool.and_false, Bool.and_false]
     rw [h0, hthree, scanQ_like hL (l.getD i 0) m (markN b) e (by omega) hx (by omega) (by omega)]
     simp only
     rw [hL.cut (by omega) (by omega), hy, <- hm, Nat.add_assoc]
     rfl
   · cases ht
 · cases ht
theorem tagE_like {l l' : List UInt8} {i i' m : Nat} (hL : Like l i l' i' m) (hS : Stop l' (i' + m)) : ∀ (d k : Nat), m - k <= d -> tagE l (i + k) = i + m -> k <= m -> tagE l' (i' + k) = i' + m
 | d, k, hd, hs, hk => by
   have ha := hL.a
   have hb := hL.b
   by_cases hkm : k = m
   · subst hkm
     by_cases hl : l'.length <= i' + k
     · exact tagE_end hl
     · exact tagE_stop (by omega) (stop_get hS (p := tagC) (by decide) (by decide))
   have hc := hL.at (k := k) (by omega)
   cases ht : tagC (l.getD (i + k) 0) with
   | false => rw [tagE_stop (by omega) ht] at hs; omega
   | true =>
     rw [tagE_go (by omega) ht] at hs
     match d, hd with
     | 0, hd => omega
     | d + 1, hd =>
       rw [tagE_go (by omega) (hc ▸ ht)]
       exact tagE_like hL hS d (k + 1) (by omega) hs (by omega)
theorem at_like {l l' : List UInt8} {i i' m : Nat} {t : TokL} (hL : Like l i l' i' m) (hS : Stop l' (i' + m)) (hi : i < l.length) (ht : atG l i = .inl t) (hf : t.fin = ((i + m : Nat) : Int)) : atG l' i' = .inl (moved t i' (i' + m)) := by
 have hb := tagE_bound l l.length (i + 1) (by omega) (by omega)
 have hfin : tagE l (i + 1) = i + m := by
   unfold atG at ht
   split at ht
   · cases ht; simp only at hf; omega
   · split at ht
     · cases ht
     · cases ht; simp only at hf; omega
 have h1 : tagE l' (i' + 1) = i' + m := tagE_like hL hS m 1 (by omega) hfin (by omega)
 have hcut : cutF l' (i' + 1) (i' + m) = cutF l (i + 1) (i + m) := hL.cut (by omega) (by omega)
 unfold atG at ht ⊢
 rw [hfin] at ht
 rw [h1, hcut]
 split at ht
 · next h => rw [if_pos h]; cases ht; rfl
 · next h =>
   rw [if_neg h]
   split at ht
   · cases ht
   · cases ht; rfl
theorem digE_like {l l' : List UInt8} {i i' m : Nat} (hL : Like l i l' i' m) (hS : Stop l' (i' + m)) : ∀ (d k : Nat), m - k <= d -> digE l (i + k) = i + m -> k <= m -> digE l' (i' + k) = i' + m
 | d, k, hd, hs, hk => by
   have ha := hL.a
   have hb := hL.b
   by_cases hkm : k = m
   · subst hkm
     by_cases hl : l'.length <= i' + k
     · exact digE_end hl
     · exact digE_stop (by omega) (stop_get hS (p := digC) (by decide) (by decide))
   have hc := hL.at (k := k) (by omega)
   cases ht : digC (l.getD (i + k) 0) with
   | false => rw [digE_stop (by omega) ht] at hs; omega
   | true =>
     rw [digE_go (by omega) ht] at hs
     match d, hd with
     | 0, hd => omega
     | d + 1, hd =>
       rw [digE_go (by omega) (hc ▸ ht)]
       exact digE_like hL hS d (k + 1) (by omega) hs (by omega)
theorem digE_in {l l' : List UInt8} {i i' m : Nat} (hL : Like l i l' i' m) {e : Nat} (he : e < m) : ∀ (d k : Nat), m - k <= d -> digE l (i + k) = i + e -> k <= e -> digE l' (i' + k) = i' + e
 | d, k, hd, hs, hk => by
   have ha := hL.a
   have hb := hL.b
   have hc := hL.at (k := k) (by omega)
   cases ht : digC (l.getD (i + k) 0) with
   | false => rw [digE_stop (by omega) ht] at hs; rw [digE_stop (by omega) (hc ▸ ht)]; omega
   | true =>
     rw [digE_go (by omega) ht] at hs
     have := digE_ge l (i + k + 1)
     match d, hd with
     | 0, hd => omega
     | d + 1, hd =>
       rw [digE_go (by omega) (hc ▸ ht)]
       exact digE_in hL he d (k + 1) (by omega) hs (by omega)
theorem powE_like {l l' : List UInt8} {i i' m k : Nat} (hL : Like l i l' i' m) (hS : Stop l' (i' + m)) (hs : powE l (i + k) = i + m) (hk : k < m) : powE l' (i' + k) = i' + m := by
 have ha := hL.a
 have hb := hL.b
 have hc := hL.at (k := k) hk
 unfold powE at hs
 split at hs
 · omega
 · next hn =>
   simp only [not_or, Bool.not_eq_false] at hn
   split at hs
   · omega
   · next hd =>
     have hg := expD_gt l (i + k)
     have hdg := digE_ge l (expD l (i + k))
     obtain ⟨x, hx⟩ : ∃ x, expD l (i + k) = i + x := ⟨expD l (i + k) - i, by omega⟩
     have hxm : x < m := by omega
     have hx' : expD l' (i' + k) = i' + x := by
       have h1 := hL.at (k := k + 1) (by omega)
       unfold expD at hx ⊢
       rw [show i' + k + 1 = i' + (k + 1) by omega, h1]
       rw [show i + k + 1 = i + (k + 1) by omega] at hx
       split at hx
       · next h => rw [if_pos ⟨by omega, h.2⟩]; omega
       · next h => rw [if_neg (fun x => h ⟨by omega, x.2⟩)]; omega
     have hd' : digE l' (i' + x) = i' + m := digE_like hL hS m x (by omega) (by rw [<- hx]; exact hs) (by omega)
     rw [powE_some (by omega) (hc ▸ hn.2) (by rw [hx', hd']; omega), hx', hd']
theorem stop_pow {l : List UInt8} {i : Nat} (h : Stop l i) : powE l i = i := powE_no (by
 by_cases hl : l.length <= i
 · exact .inl hl
 · exact .inr (stop_get h (p := expC) (by decide) (by decide)))
theorem stop_dot {l : List UInt8} {i : Nat} (h : Stop l i) : (decide (i < l.length) && l.getD i 0 == 46) = false := by
 rw [stop_get h (p := fun c => c == 46) (by decide) (by decide), Bool.and_false]
theorem dig_stop {l : List UInt8} {i : Nat} (h : Stop l i) : digE l i = i := by
 by_cases hl : l.length <= i
 · exact digE_end hl
 · exact digE_stop (by omega) (stop_get h (p := digC) (by decide) (by decide))
theorem numD_like {l l' : List UInt8} {i i' m f : Nat} (hL : Like l i l' i' m) (hm : 0 < m) (hf : numD l i = i + f) : numD l' i' = i' + f := by
 have h0 := hL.at (k := 0) hm
 rw [Nat.add_zero, Nat.add_zero] at h0
 have ha := hL.a
 have hb := hL.b
 unfold numD at hf ⊢
 rw [h0]
 split at hf
 · next h => rw [if_pos ⟨by omega, h.2⟩]; omega
 · next h => rw [if_neg (fun x => h ⟨by omega, x.2⟩)]; omega
theorem num_like {l l' : List UInt8} {i i' m : Nat} (hL : Like l i l' i' m) (hS : Stop l' (i' + m)) (_hi : i < l.length) (hg : numD l i < (numP l i).1) (hf : (numP l i).1 = i + m) : numP l' i' = (i' + m, (numP l i).2) := by
 have ha := hL.a
 have hb := hL.b
 obtain ⟨f, hnf⟩ : ∃ f, numD l i = i + f := ⟨numD l i - i, by have := numD_gt l i; omega⟩
 have hfm : f < m := by omega
 have hnf' := numD_like hL (by omega) hnf
 obtain ⟨a, hna⟩ : ∃ a, digE l (i + f) = i + a := ⟨digE l (i + f) - i, by have := digE_ge l (i + f); omega⟩
 have hfa : f <= a := by have := digE_ge l (i + f); omega
 obtain ⟨b, hnb⟩ : ∃ b, digE l (i + a + 1) = i + b := ⟨digE l (i + a + 1) - i, by have := digE_ge l (i + a + 1); omega⟩
 have hab : a + 1 <= b := by have := digE_ge l (i + a + 1); omega
 unfold numP at hg hf ⊢
 simp only [hnf, hna, hnb] at hg hf ⊢
 simp only [hnf']
 have hin : ∀ x : Nat, x < m -> l'.getD (i' + x) 0 = l.getD (i + x) 0 := fun x hx => hL.at hx
 -- the digits end ahead of the token's end
 have hA : a < m -> digE l' (i' + f) = i' + a := fun h => digE_in hL h m f (by omega) hna hfa
 have hD : a < m -> (decide (i' + a < l'.length) && l'.getD (i' + a) 0 == 46) = (decide (i + a < l.length) && l.getD (i + a) 0 == 46) := fun h => by
   rw [hin a h, decide_eq_true (show i' + a < l'.length by omega), decide_eq_true (show i + a < l.length by omega)]
 have hB : b < m -> digE l' (i' + a + 1) = i' + b := fun h => digE_in hL h m (a + 1) (by omega) hnb hab
 have hP := powE_bound l (i + a)
 obtain ⟨dot, hdot⟩ : ∃ d, (decide (i + a < l.length) && l.getD (i + a) 0 == 46) = d := ⟨_, rfl⟩
 rw [hdot] at hg hf hD ⊢
 have hdp : dot = true -> powE l (i + a) = i + a := fun h => powE_no (.inr (by
   rw [h] at hdot
   simp only [Bool.and_eq_true, beq_iff_eq] at hdot
   rw [hdot.2]; decide))
 by_cases hfa' : a = m
 · -- digits alone
   subst hfa'
   have hA' : digE l' (i' + f) = i' + a := digE_like hL hS a f (by omega) hna hfa
   have hst := stop_dot hS
   simp only [hA', hst, Bool.false_eq_true, false_and, if_false, stop_pow hS, Nat.lt_irrefl]
   cases hdt : dot with
   | false =>
     rw [hdt] at hg hf
     simp only [Bool.false_eq_true, false_and, if_false] at hg hf ⊢
     by_cases h1 : i + a < powE l (i + a) /\ i + f < i + a
     · rw [if_pos h1] at hf; simp only at hf; omega
     · rw [if_neg h1, if_neg h1]
       rw [if_neg h1, if_neg h1] at hg
       rw [if_pos (by omega), if_pos (by omega)]
   | true =>
     rw [hdt] at hg hf
     have hpa := hdp hdt
     simp only [true_and, hpa, Nat.lt_irrefl, false_and, if_false] at hg hf ⊢
     by_cases h2 : i + a + 1 < i + b
     · rw [if_pos h2, if_pos h2] at hf
       exfalso
       have := (powE_bound l (i + b)).1
       split at hf <;> (simp only at hf; omega)
     · rw [if_neg h2, if_neg h2] at hf hg ⊢
       have := (powE_bound l (if i + f < i + a then i + a + 1 else i + a)).1
       by_cases h3 : i + f < i + a
       · rw [if_pos h3] at hf hg this ⊢
         rw [if_pos h3] at hf ⊢
         by_cases h4 : i + a + 1 < powE l (i + a + 1) /\ i + f < i + a + 1
         · rw [if_pos h4] at hf; simp only at hf; omega
         · rw [if_neg h4, if_pos (by omega)]
       · exfalso; omega
 · have ham : a < m := by
     by_cases h : a < m
     · exact h
     · exfalso
       have hge : i + a <= (if dot = true /\ i + a + 1 < i + b then i + b else if dot = true /\ i + f < i + a then i + a + 1 else i + a) := by
         split
         · omega
         · split <;> omega
       generalize (if dot = true /\ i + a + 1 < i + b then i + b else if dot = true /\ i + f < i + a then i + a + 1 else i + a) = man at hf hge
       have hpm := (powE_bound l man).1
       split at hf
       · have : powE l man = i + m := hf
         omega
       · split at hf
         · have : powE l (i + a) = i + m := hf
           omega
         · split at hf
           · have : i + b = i + m := hf
             omega
           · split at hf
             · have : i + a = i + m := hf
               omega
             · have : i + f = i + m := hf
               omega
   have hA' := hA ham
   have hD' := hD ham
   simp only [hA', hD']
   cases hdt : dot with
   | false =>
     rw [hdt] at hg hf
     simp only [Bool.false_eq_true, false_and, if_false] at hg hf ⊢
     by_cases h1 : i + a < powE l (i + a) /\ i + f < i + a
     · rw [if_pos h1] at hf ⊢
       simp only at hf
       have hp' := powE_like hL hS hf ham
       rw [hp', if_pos (by omega)]
     · rw [if_neg h1, if_neg h1] at hf
       exfalso
       split at hf <;> (simp only at hf; omega)
   | true =>
     rw [hdt] at hg hf
     have hpa := hdp hdt
     have hpa' : powE l' (i' + a) = i' + a := powE_no (.inr (by
       rw [hin a ham]
       rw [hdt] at hdot
       simp only [Bool.and_eq_true, beq_iff_eq] at hdot
       rw [hdot.2]; decide))
     simp only [true_and, hpa, Nat.lt_irrefl, false_and, if_false] at hg hf ⊢
     simp only [hpa', Nat.lt_irrefl, false_and, if_false]
     by_cases h2 : i + a + 1 < i + b
     · rw [if_pos h2, if_pos h2] at hf
       rw [if_pos h2, if_pos h2]
       have hb1 := (powE_bound l (i + b)).1
       by_cases h3 : i + b < powE l (i + b) /\ i + f < i + b
       · rw [if_pos h3] at hf ⊢
         simp only at hf
         have hB' := hB (by omega)
         have hp' := powE_like hL hS hf (by omega)
         rw [hB', if_pos (show i' + a + 1 < i' + b by omega), hp', if_pos (show i' + b < i' + m /\ i' + f < i' + b by omega)]
       · rw [if_neg h3] at hf ⊢
         simp only at hf
         have hbm : b = m := by omega
         subst hbm
         have hB' : digE l' (i' + a + 1) = i' + b := digE_like hL hS b (a + 1) (by omega) hnb (by omega)
         rw [hB', if_pos (show i' + a + 1 < i' + b by omega), stop_pow hS, if_neg (show ¬ (i' + b < i' + b /\ i' + f < i' + b) by omega), if_pos (show i' + a + 1 < i' + b by omega)]
     · rw [if_neg h2, if_neg h2] at hf
       rw [if_neg h2, if_neg h2]
       by_cases h3 : i + f < i + a
       · rw [if_pos h3, if_pos h3] at hf
         rw [if_pos h3, if_pos h3]
         by_cases h4 : i + a + 1 < powE l (i + a + 1) /\ i + f < i + a + 1
         · rw [if_pos h4] at hf ⊢
           simp only at hf
           have hB' := hB (by omega)
           have hp' : powE l' (i' + a + 1) = i' + m := powE_like (k := a + 1) hL hS hf (by omega)
           rw [hB', if_neg (show ¬ i' + a + 1 < i' + b by omega), if_pos (show i' + f < i' + a by omega), hp', if_pos (show i' + a + 1 < i' + m /\ i' + f < i' + a + 1 by omega)]
         · rw [if_neg h4] at hf
           simp only at hf
           omega
       · rw [if_neg h3, if_neg h3, if_neg (fun x : i + a < powE l (i + a) /\ i + f < i + a => h3 x.2)] at hf
         have : i + f = i + m := hf
         omega
theorem numTok_like {l l' : List UInt8} {i i' m : Nat} {t : TokL} (hL : Like l i l' i' m) (hS : Stop l' (i' + m)) (hi : i < l.length) (ht : numTok l i = .inl t) (hf : t.fin = ((i + m : Nat) : Int)) : numTok l' i' = .inl (moved t i' (i' + m)) := by
 unfold numTok at ht ⊢
 split at ht
 · next hg =>
   cases ht
   simp only at hf
   have hfin : (numP l i).1 = i + m := by omega
   have hp := num_like hL hS hi hg hfin
   obtain ⟨f, hnf⟩ : ∃ f, numD l i = i + f := ⟨numD l i - i, by have := numD_gt l i; omega⟩
   have hnf' := numD_like hL (by omega) hnf
   rw [hp, hnf', if_pos (by show i' + f < i' + m; omega)]
   have hcut : cutF l' i' (i' + m) = cutF l i (i + m) := by
     have := hL.cut (a := 0) (b := m) (by omega) (by omega)
     simpa using this
   rw [hfin]
   simp only [hcut]
   rfl
 · next hg =>
   split at ht
   · next h46 =>
     cases ht
     simp only at hf
     have hm : m = 1 := by omega
     subst hm
     have h0 := hL.at (k := 0) (by omega)
     rw [Nat.add_zero, Nat.add_zero, h46] at h0
     have hb := hL.b
     have hnd : numD l' i' = i' := by
       unfold numD; rw [if_neg]
       rintro ⟨_, h⟩
       rw [h0] at h; exact absurd h (by decide)
     have hda : digE l' i' = i' := digE_stop (by omega) (by rw [h0]; decide)
     have hdb : digE l' (i' + 1) = i' + 1 := dig_stop hS
     have hpw : powE l' i' = i' := powE_no (.inr (by rw [h0]; decide))
     have hnp : numP l' i' = (i', []) := by
       unfold numP
       simp only [hnd, hda, hdb, hpw, Nat.lt_irrefl, and_false, if_false]
     rw [hnp, hnd, if_neg (by show ¬ i' < i'; omega), if_pos h0]
     rfl
   · cases ht
end Go.Proofs.YtdhmpakhdhdebaaGreatDoor
namespace Go.Proofs.YtdhmpakhdhdebaaGreatDoor
open Go.RowKit
set_option maxRecDepth 100000
theorem word_stop {l : List UInt8} {i : Nat} (d : Bool) (h : Stop l i) : wordE l d i = i := by
 obtain ⟨v, n, hq, hs⟩ := stop_next h
 exact wordE_stop hq (by
   rcases hs with h | ⟨h1, h2, _⟩
   · exact .inl h
   · exact .inr ⟨h1, fun x => h2 x.2⟩)
theorem word_like {l l' : List UInt8} {i i' m : Nat} (hL : Like l i l' i' m) (hS : Stop l' (i' + m)) (d' : Bool) : ∀ (c k : Nat), m - k <= c -> wordE l false (i + k) = i + m -> k <= m -> wordE l' d' (i' + k) = i' + m
 | c, k, hc, hs, hk => by
   by_cases hkm : k = m
   · subst hkm; exact word_stop d' hS
   obtain ⟨v, n, hq⟩ : ∃ v n, nextAt l ((i + k : Nat) : Int) = (v, n) := ⟨_, _, rfl⟩
   by_cases hx : n = 0 \/ (followB v = false /\ ¬ (false = true /\ v = 46))
   · rw [wordE_stop hq hx] at hs; omega
   · rw [wordE_go hq hx] at hs
     have hn : n ≠ 0 := fun h => hx (.inl h)
     have hb := nextAt_bound hq hn
     have hw := (wordE_bound l false l.length (i + k + n) (by omega) (by omega)).1
     have hq' := hL.next hq hn (by omega)
     match c, hc with
     | 0, hc => omega
     | c + 1, hc =>
       rw [wordE_go hq' (fun h => hx (h.imp id fun x => ⟨x.1, fun y => by cases y.1⟩)), Nat.add_assoc]
       exact word_like hL hS d' c (k + n) (by omega) (by rw [<- Nat.add_assoc]; exact hs) (by omega)
theorem word_in {l l' : List UInt8} {i i' m w : Nat} (hL : Like l i l' i' m) (d : Bool) (hw : w < m) (h58 : l.getD (i + w) 0 = 58) : ∀ (c k : Nat), m - k <= c -> wordE l d (i + k) = i + w -> k <= w -> wordE l' d (i' + k) = i' + w
 | c, k, hc, hs, hk => by
   have ha := hL.a
   have hb' := hL.b
   by_cases hkm : k = w
   · subst hkm
     have hq' := at_low (l := l') (i := i' + k) (by omega) (by rw [hL.at hw, h58]; decide)
     exact wordE_stop hq' (.inr (by rw [hL.at hw, h58]; cases d <;> decide))
   obtain ⟨v, n, hq⟩ : ∃ v n, nextAt l ((i + k : Nat) : Int) = (v, n) := ⟨_, _, rfl⟩
   by_cases hx : n = 0 \/ (followB v = false /\ ¬ (d = true /\ v = 46))
   · rw [wordE_stop hq hx] at hs; omega
   · rw [wordE_go hq hx] at hs
     have hn : n ≠ 0 := fun h => hx (.inl h)
     have hb := nextAt_bound hq hn
     have hww := (wordE_bound l d l.length (i + k + n) (by omega) (by omega)).1
     have hq' := hL.next hq hn (by omega)
     match c, hc with
     | 0, hc => omega
     | c + 1, hc =>
       rw [wordE_go hq' hx, Nat.add_assoc]
       exact word_in hL d hw h58 c (k + n) (by omega) (by rw [<- Nat.add_assoc]; exact hs) (by omega)
theorem drop_like {l l' : List UInt8} {i i' m k : Nat} (hL : Like l i l' i' m) (hk : k <= m) : ∃ u x x', l.drop (i + k) = u ++ x /\ l'.drop (i' + k) = u ++ x' /\ u.length = m - k := by
 have h := (hL.step (k := k) (n := m - k) (by omega))
 refine ⟨(l.drop (i + k)).take (m - k), (l.drop (i + k)).drop (m - k), (l'.drop (i' + k)).drop (m - k), (List.take_append_drop _ _).symm, ?_, ?_⟩
 · rw [<- h.c, List.take_append_drop]
 · have := hL.a; simp; omega
theorem perc_like {l l' : List UInt8} {i i' m k : Nat} (hL : Like l i l' i' m) (hk : k + 3 <= m) : percB (l'.drop (i' + k)) = percB (l.drop (i + k)) := by
 obtain ⟨u, x, x', h1, h2, hu⟩ := drop_like hL (k := k) (by omega)
 rw [h1, h2]
 match u, hu with
 | [], hu => simp at hu; omega
 | [_], hu => simp at hu; omega
 | [_, _], hu => simp at hu; omega
 | a :: b :: c :: t, _ => rfl
theorem esc_like {l l' : List UInt8} {i i' m k : Nat} (hL : Like l i l' i' m) (hk : k + 2 <= m) : esc2 (l'.drop (i' + k)) = esc2 (l.drop (i + k)) := by
 obtain ⟨u, x, x', h1, h2, hu⟩ := drop_like hL (k := k) (by omega)
 rw [h1, h2]
 match u, hu with
 | [], hu => simp at hu; omega
 | [_], hu => simp at hu; omega
 | a :: b :: t, _ => rfl
theorem perc_not {r : List UInt8} {v : Int} {n : Nat} (h : nextP r = (v, n)) (hv : v ≠ 37) : percB r = false := by
 cases hp : percB r with
 | false => rfl
 | true =>
   obtain ⟨t, rfl⟩ := percB_front hp
   rw [nextP_1 (by decide)] at h
   cases h
   exact absurd rfl hv
theorem esc_not {r : List UInt8} {v : Int} {n : Nat} (h : nextP r = (v, n)) (hv : v ≠ 92) : esc2 r = false := by
 cases hp : esc2 r with
 | false => rfl
 | true =>
   obtain ⟨b, t, rfl, _⟩ := esc2_front hp
   rw [nextP_1 (by decide)] at h
   cases h
   exact absurd rfl hv
theorem piece_like {l l' : List UInt8} {i i' m k : Nat} {f : Bool} (hL : Like l i l' i' m) (hm : mayP (pieceF l (i + k)) f = true) (hk : k + (pieceF l (i + k)).2.1 <= m) : pieceF l' (i' + k) = pieceF l (i + k) := by
 unfold pieceF at hm hk ⊢
 by_cases hp : percB (l.drop (i + k)) = true
 · rw [if_pos hp] at hk ⊢
   simp only at hk
   rw [if_pos ((perc_like hL hk).trans hp)]
   have := (((hL.step (k := k) (n := m - k) (by omega)).front (k := 3) (by omega))).c
   rw [this]
 rw [if_neg hp] at hk hm ⊢
 by_cases he : esc2 (l.drop (i + k)) = true
 · rw [if_pos he] at hk ⊢
   simp only at hk
   have h37 : percB (l'.drop (i' + k)) = false := percB_head (by
     obtain ⟨b, t, e, _⟩ := esc2_front he
     obtain ⟨u, x, x', h1, h2, hu⟩ := drop_like hL (k := k) (by omega)
     match u, hu with
     | [], hu => simp at hu; omega
     | a :: u, _ =>
       rw [h1] at e
       simp at e
       rw [h2]
       simp [e.1])
   rw [if_neg (by rw [h37]; simp), if_pos ((esc_like hL hk).trans he)]
   have := (((hL.step (k := k + 1) (n := m - (k + 1)) (by omega)).front (k := 1) (by omega))).c
   rw [show i' + k + 1 = i' + (k + 1) by omega, this, Nat.add_assoc]
 rw [if_neg he] at hk hm ⊢
 obtain ⟨v, n, hq⟩ : ∃ v n, nextAt l ((i + k : Nat) : Int) = (v, n) := ⟨_, _, rfl⟩
 rw [hq] at hk hm ⊢
 simp only at hk hm ⊢
 by_cases hn : n = 0
 · rw [if_pos hn] at hm; exact absurd hm (by cases f <;> decide)
 rw [if_neg hn] at hk hm ⊢
 by_cases hv : v = 37 \/ v = 92
 · rw [if_pos hv] at hm; exact absurd hm (by cases f <;> decide)
 rw [if_neg hv] at hk hm ⊢
 simp only at hk
 simp only [not_or] at hv
 have hq' := hL.next hq hn hk
 have hd := hq'
 rw [nextAt_nat] at hd
 rw [if_neg (by rw [perc_not hd hv.1]; simp), if_neg (by rw [esc_not hd hv.2]; simp), hq']
 simp only
 rw [if_neg hn, if_neg (fun h => h.elim hv.1 hv.2)]
 have := (((hL.step (k := k) (n := m - k) (by omega)).front (k := n) (by omega))).c
 rw [this]
theorem piece_stop {l : List UInt8} {i : Nat} (f : Bool) (h : Stop l i) : mayP (pieceF l i) f = false := by
 obtain ⟨v, n, hq, hs⟩ := stop_next h
 have h37 : (l.drop i).headD 0 ≠ 37 := by
   have := stop_get h (p := fun c => c == 37) (by decide) (by decide)
   intro e
   rw [List.getD_eq_getElem?_getD] at this
   rw [List.headD_eq_head?_getD, List.head?_drop] at e
   rw [e] at this
   exact absurd this (by decide)
 have h92 : (l.drop i).headD 0 ≠ 92 := by
   have := stop_get h (p := fun c => c == 92) (by decide) (by decide)
   intro e
   rw [List.getD_eq_getElem?_getD] at this
   rw [List.headD_eq_head?_getD, List.head?_drop] at e
   rw [e] at this
   exact absurd this (by decide)
 unfold pieceF
 rw [if_neg (by rw [percB_head h37]; simp), if_neg (by rw [esc2_head h92]; simp), hq]
 simp only
 rcases hs with hs | ⟨h1, h2, h3, h4, h5⟩
 · rw [if_pos hs]; cases f <;> decide
 · by_cases hn : n = 0
   · rw [if_pos hn]; cases f <;> decide
   · rw [if_neg hn, if_neg (fun h => h.elim h4 h5)]
     unfold mayP standsB
     have hl : labelB v = false := by
       cases hl : labelB v with
       | false => rfl
       | true => rw [label_follow hl] at h1; cases h1
     unfold labelB at hl
     have hb := nextAt_bound hq hn
     have hv : (v == -1) = false := by simp; omega
     simp only [hv, Bool.false_or, decide_eq_false h3, decide_eq_false h2, h1, hl]
     cases f <;> simp
theorem locG_kept (l : List UInt8) (a : Nat) : ∀ (c k e : Nat) (says kept : List UInt8), l.length - k <= c -> e <= k -> (locG l a k says e kept).1 <= e -> locG l a k says e kept = (e, kept)
 | c, k, e, says, kept, hc, he, hr => by
   cases hm : mayP (pieceF l k) (decide (k = a)) with
   | false => exact locG_stop hm
   | true =>
     have hb := pieceF_bound hm
     rw [locG_go hm] at hr ⊢
     match c, hc with
     | 0, hc => omega
     | c + 1, hc =>
       cases hl : lastP (pieceF l k) (decide (k = a)) with
       | true =>
         rw [hl, if_pos rfl, if_pos rfl] at hr
         have := (locG_bound l a l.length (k + (pieceF l k).2.1) (k + (pieceF l k).2.1) (says ++ (pieceF l k).1) (says ++ (pieceF l k).1) (by omega) (Nat.le_refl _) hb.2).1
         omega
       | false =>
         rw [hl, if_neg (by simp), if_neg (by simp)] at hr
         rw [if_neg (by simp), if_neg (by simp)]
         exact locG_kept l a c (k + (pieceF l k).2.1) e _ kept (by omega) (by omega) hr
theorem locG_jump (l : List UInt8) (a : Nat) : ∀ (c k e : Nat) (says kept : List UInt8), l.length - k <= c -> e <= k -> (locG l a k says e kept).1 = e \/ k < (locG l a k says e kept).1
 | c, k, e, says, kept, hc, he => by
   cases hm : mayP (pieceF l k) (decide (k = a)) with
   | false => rw [locG_stop hm]; exact .inl rfl
   | true =>
     have hb := pieceF_bound hm
     rw [locG_go hm]
     match c, hc with
     | 0, hc => omega
     | c + 1, hc =>
       cases hl : lastP (pieceF l k) (decide (k = a)) with
       | true =>
         rw [if_pos rfl, if_pos rfl]
         have := (locG_bound l a l.length (k + (pieceF l k).2.1) (k + (pieceF l k).2.1) (says ++ (pieceF l k).1) (says ++ (pieceF l k).1) (by omega) (Nat.le_refl _) hb.2).1
         exact .inr (by omega)
       | false =>
         rw [if_neg (by simp), if_neg (by simp)]
         rcases locG_jump l a c (k + (pieceF l k).2.1) e (says ++ (pieceF l k).1) kept (by omega) (by omega) with h | h
         · exact .inl h
         · exact .inr (by omega)
theorem locG_like {l l' : List UInt8} {i i' m a : Nat} (hL : Like l i l' i' m) (hS : Stop l' (i' + m)) : ∀ (c k q : Nat) (says kept K : List UInt8), m - k <= c -> k <= m -> q <= k -> locG l (i + a) (i + k) says (i + q) kept = (i + m, K) -> locG l' (i' + a) (i' + k) says (i' + q) kept = (i' + m, K)
 | c, k, q, says, kept, K, hc, hk, hq, hr => by
   have ha := hL.a
   by_cases hkm : k = m
   · subst hkm
     have hqk : q = k := by
       by_cases h : q = k
       · exact h
       · exfalso
         -- a later end lies behind k
         cases hm : mayP (pieceF l (i + k)) (decide (i + k = i + a)) with
         | false => rw [locG_stop hm] at hr; simp at hr; omega
         | true =>
           have hb := pieceF_bound hm
           have h1 := locG_bound l (i + a) l.length (i + k) (i + q) says kept (by omega) (by omega) (by omega)
           rw [locG_go hm] at hr
           cases hl : lastP (pieceF l (i + k)) (decide (i + k = i + a)) with
           | true =>
             rw [hl, if_pos rfl, if_pos rfl] at hr
             have := (locG_bound l (i + a) l.length (i + k + (pieceF l (i + k)).2.1) (i + k + (pieceF l (i + k)).2.1) (says ++ (pieceF l (i + k)).1) (says ++ (pieceF l (i + k)).1) (by omega) (Nat.le_refl _) hb.2).1
             rw [hr] at this
             simp only at this
             omega
           | false =>
             rw [hl, if_neg (by simp), if_neg (by simp)] at hr
             have := locG_jump l (i + a) l.length (i + k + (pieceF l (i + k)).2.1) (i + q) (says ++ (pieceF l (i + k)).1) kept (by omega) (by omega)
             rw [hr] at this
             simp only at this
             omega
     subst hqk
     have h2 := locG_kept l (i + a) l.length (i + q) (i + q) says kept (by omega) (Nat.le_refl _) (by rw [hr]; exact Nat.le_refl _)
     rw [h2] at hr
     rw [locG_stop (piece_stop _ hS)]
     cases hr; rfl
   cases hm : mayP (pieceF l (i + k)) (decide (i + k = i + a)) with
   | false => rw [locG_stop hm] at hr; simp at hr; omega
   | true =>
     have hb := pieceF_bound hm
     have hd : decide (i' + k = i' + a) = decide (i + k = i + a) := by
       by_cases h : k = a
       · rw [decide_eq_true (show i' + k = i' + a by omega), decide_eq_true (show i + k = i + a by omega)]
       · rw [decide_eq_false (show ¬ i' + k = i' + a by omega), decide_eq_false (show ¬ i + k = i + a by omega)]
     have hfit : k + (pieceF l (i + k)).2.1 <= m := by
       by_cases h : k + (pieceF l (i + k)).2.1 <= m
       · exact h
       · exfalso
         rw [locG_go hm] at hr
         cases hl : lastP (pieceF l (i + k)) (decide (i + k = i + a)) with
         | true =>
           rw [hl, if_pos rfl, if_pos rfl] at hr
           have := (locG_bound l (i + a) l.length (i + k + (pieceF l (i + k)).2.1) (i + k + (pieceF l (i + k)).2.1) (says ++ (pieceF l (i + k)).1) (says ++ (pieceF l (i + k)).1) (by omega) (Nat.le_refl _) hb.2).1
           rw [hr] at this
           simp only at this
           omega
         | false =>
           rw [hl, if_neg (by simp), if_neg (by simp)] at hr
           have := locG_jump l (i + a) l.length (i + k + (pieceF l (i + k)).2.1) (i + q) (says ++ (pieceF l (i + k)).1) kept (by omega) (by omega)
           rw [hr] at this
           simp only at this
           omega
     have hp := piece_like hL hm hfit
     rw [locG_go hm] at hr
     rw [locG_go (by rw [hp, hd]; exact hm), hp, hd]
     generalize pieceF l (i + k) = p at hb hfit hr ⊢
     match c, hc with
     | 0, hc => omega
     | c + 1, hc =>
       cases hl : lastP p (decide (i + k = i + a)) with
       | true =>
         rw [hl, if_pos rfl, if_pos rfl, Nat.add_assoc] at hr
         rw [if_pos rfl, if_pos rfl, Nat.add_assoc]
         exact locG_like hL hS c (k + p.2.1) (k + p.2.1) _ _ K (by omega) (by omega) (by omega) hr
       | false =>
         rw [hl, if_neg (by simp), if_neg (by simp), Nat.add_assoc] at hr
         rw [if_neg (by simp), if_neg (by simp), Nat.add_assoc]
         exact locG_like hL hS c (k + p.2.1) q _ _ K (by omega) (by omega) (by omega) hr
theorem name_like {l l' : List UInt8} {i i' m : Nat} {t : TokL} (hL : Like l i l' i' m) (hS : Stop l' (i' + m)) (hi : i < l.length) (ht : nameG l i = .inl t) (hf : t.fin = ((i + m : Nat) : Int)) : nameG l' i' = .inl (moved t i' (i' + m)) := by
 have ha := hL.a
 have hb := hL.b
 have hcut : ∀ w, w <= m -> cutF l' i' (i' + w) = cutF l i (i + w) := fun w hw => by
   have := hL.cut (a := 0) (b := w) hw (by omega)
   simpa using this
 unfold nameG at ht ⊢
 obtain ⟨x, hx⟩ : ∃ x, prefE l i = x := ⟨_, rfl⟩
 rw [hx] at ht
 cases x with
 | some e =>
   simp only [Sum.inl.injEq] at ht
   have he := prefE_some hx
   have hw := wordE_bound l true l.length i (by omega) (by omega)
   obtain ⟨w, rfl⟩ : ∃ w, e = i + w := ⟨e - i, by omega⟩
   have hlb := localG_bound (l := l) (i := i + w + 1) (by omega)
   have hfin : (localG l (i + w + 1)).1 = i + m := by subst ht; simp only at hf; omega
   have hwm : w + 1 <= m := by omega
   have h1 : wordE l' true i' = i' + w := word_in (k := 0) hL true (by omega) he.2.2.1 m (by omega) he.1.symm (by omega)
   have h2 : prefE l' i' = some (i' + w) := by
     unfold prefE
     rw [h1, if_pos ⟨by omega, by rw [hL.at (by omega)]; exact he.2.2.1, by rw [hcut w (by omega)]; exact he.2.2.2⟩]
   have h3 : localG l' (i' + w + 1) = (i' + m, (localG l (i + w + 1)).2) := by
     unfold localG
     exact locG_like (a := w + 1) hL hS m (w + 1) (w + 1) [] [] _ (by omega) (by omega) (by omega) (by
       show locG l (i + w + 1) (i + w + 1) [] (i + w + 1) [] = _
       rw [<- hfin]; rfl)
   rw [h2]
   simp only
   rw [h3, hcut w (by omega), <- ht]
   rfl
 | none =>
   have hw := wordE_bound l false l.length i (by omega) (by omega)
   simp only at ht
   have hfin : wordE l false i = i + m := by
     unfold wordG at ht
     split at ht
     · cases ht; simp only at hf; omega
     · split at ht
       · cases ht; simp only at hf; omega
       · cases ht
   have h1 : ∀ d, wordE l' d i' = i' + m := fun d => word_like (k := 0) hL hS d m (by omega) hfin (by omega)
   have h2 : prefE l' i' = none := by
     unfold prefE
     rw [h1, if_neg]
     rintro ⟨_, h58, _⟩
     have := stop_get hS (p := fun c => c == 58) (by decide) (by decide)
     rw [h58] at this
     exact absurd this (by decide)
   rw [h2]
   show wordG l' i' = _
   unfold wordG at ht ⊢
   rw [h1, hcut m (Nat.le_refl _)]
   rw [hfin] at ht
   split at ht
   · next h => rw [if_pos h]; cases ht; rfl
   · next h =>
     rw [if_neg h]
     split at ht
     · next h => rw [if_pos h]; cases ht; rfl
     · cases ht
theorem tailF_jump (l : List UInt8) : ∀ (c k e : Nat), l.length - k <= c -> e <= k -> tailF l k e = e \/ k < tailF l k e
 | c, k, e, hc, he => by
   obtain ⟨v, n, hq⟩ : ∃ v n, nextAt l (k : Int) = (v, n) := ⟨_, _, rfl⟩
   by_cases hs : n = 0 \/ (v ≠ 46 /\ followB v = false)
   · exact .inl (tailF_stop hq hs)
   · have hn : n ≠ 0 := fun h => hs (.inl h)
     have hb := nextAt_bound hq hn
     rw [tailF_go hq hs]
     match c, hc with
     | 0, hc => omega
     | c + 1, hc =>
       by_cases hv : v = 46
       · rw [if_pos hv]
         rcases tailF_jump l c (k + n) e (by omega) (by omega) with h | h
         · exact .inl h
         · exact .inr (by omega)
       · rw [if_neg hv]
         have := tailF_ge l l.length (k + n) (k + n) (by omega) (Nat.le_refl _)
         exact .inr (by omega)
theorem tailF_like {l l' : List UInt8} {i i' m : Nat} (hL : Like l i l' i' m) (hS : Stop l' (i' + m)) : ∀ (c k q : Nat), m - k <= c -> k <= m -> q <= k -> tailF l (i + k) (i + q) = i + m -> tailF l' (i' + k) (i' + q) = i' + m
 | c, k, q, hc, hk, hqk, hr => by
   have ha := hL.a
   by_cases hkm : k = m
   · subst hkm
     have hq : q = k := by
       rcases tailF_jump l l.length (i + k) (i + q) (by omega) (by omega) with h | h
       · omega
       · omega
     subst hq
     obtain ⟨v, n, hn, hs⟩ := stop_next hS
     exact tailF_stop hn (by rcases hs with h | h; exact .inl h; exact .inr ⟨h.2.1, h.1⟩)
   obtain ⟨v, n, hq⟩ : ∃ v n, nextAt l ((i + k : Nat) : Int) = (v, n) := ⟨_, _, rfl⟩
   by_cases hs : n = 0 \/ (v ≠ 46 /\ followB v = false)
   · rw [tailF_stop hq hs] at hr; omega
   · have hn : n ≠ 0 := fun h => hs (.inl h)
     have hb := nextAt_bound hq hn
     rw [tailF_go hq hs] at hr
     have hfit : k + n <= m := by
       by_cases hv : v = 46
       · rw [if_pos hv] at hr
         rcases tailF_jump l l.length (i + k + n) (i + q) (by omega) (by omega) with h | h <;> omega
       · rw [if_neg hv] at hr
         have := tailF_ge l l.length (i + k + n) (i + k + n) (by omega) (Nat.le_refl _)
         omega
     have hq' := hL.next hq hn hfit
     rw [tailF_go hq' hs]
     match c, hc with
     | 0, hc => omega
     | c + 1, hc =>
       by_cases hv : v = 46
       · rw [if_pos hv, Nat.add_assoc] at hr
         rw [if_pos hv, Nat.add_assoc]
         exact tailF_like hL hS c (k + n) q (by omega) hfit (by omega) hr
       · rw [if_neg hv, Nat.add_assoc] at hr
         rw [if_neg hv, Nat.add_assoc]
         exact tailF_like hL hS c (k + n) (k + n) (by omega) hfit (by omega) hr
theorem label_like {l l' : List UInt8} {i i' m : Nat} {t : TokL} (hL : Like l i l' i' m) (hS : Stop l' (i' + m)) (_hi : i < l.length) (ht : labelG l i = .inl t) (hf : t.fin = ((i + m : Nat) : Int)) : labelG l' i' = .inl (moved t i' (i' + m)) := by
 have ha := hL.a
 have hb := hL.b
 unfold labelG at ht ⊢
 split at ht
 · cases ht
 · next hn =>
   simp only [not_or, Classical.not_not] at hn
   split at ht
   · cases ht
   · next h0 =>
     cases ht
     simp only at hf
     obtain ⟨v, n, hq⟩ : ∃ v n, nextAt l ((i + 2 : Nat) : Int) = (v, n) := ⟨_, _, rfl⟩
     by_cases hs : n = 0 \/ labelB v = false
     · exact absurd (runF_no hq hs) h0
     have hn0 : n ≠ 0 := fun h => hs (.inl h)
     have hbn := nextAt_bound hq hn0
     have hrun := runF_go hq hs
     have htg := tailF_ge l l.length (i + 2 + n) (i + 2 + n) (by omega) (Nat.le_refl _)
     have htail : tailF l (i + 2 + n) (i + 2 + n) = i + m := by omega
     have hfit : 2 + n <= m := by omega
     have hq' := hL.next (k := 2) hq hn0 hfit
     have htail' : tailF l' (i' + 2 + n) (i' + 2 + n) = i' + m := by
       rw [Nat.add_assoc] at htail ⊢
       exact tailF_like hL hS m (2 + n) (2 + n) (by omega) hfit (Nat.le_refl _) htail
     have hrun' : runF labelB l' ((i' + 2 : Nat) : Int) = i' + m - (i' + 2) := by rw [runF_go hq' hs, htail']
     have hr : runF labelB l ((i + 2 : Nat) : Int) = m - 2 := by omega
     have h1 := hL.at (k := 1) (by omega)
     rw [if_neg (by rw [h1]; simp only [not_or, Classical.not_not]; exact ⟨by omega, hn.2⟩), hrun', if_neg (by omega), hr, show i' + 2 + (i' + m - (i' + 2)) = i' + m by omega, show i + 2 + (m - 2) = i + m by omega, hL.cut (by omega) (by omega)]
     rfl
theorem tok_like {l l' : List UInt8} {i i' m : Nat} {t : TokL} (hL : Like l i l' i' m) (hS : Stop l' (i' + m)) (hi : i < l.length) (ht : tokG l i = .inl t) (hf : t.fin = ((i + m : Nat) : Int)) : tokG l' i' = .inl (moved t i' (i' + m)) := by
 have hat := tok_at hi
 rw [ht] at hat
 obtain ⟨_, ⟨e, he, h1, h2⟩, _⟩ := hat
 have hm : 0 < m := by omega
 have ha := hL.a
 have hb := hL.b
 have h0 := hL.at (k := 0) hm
 rw [Nat.add_zero, Nat.add_zero] at h0
 rw [<- tok_eq hi] at ht
 rw [<- tok_eq (by omega)]
 unfold tokP at ht ⊢
 rw [h0]
 by_cases c1 : l.getD i 0 = 60
 · rw [if_pos c1] at ht ⊢; exact iri_like hL hi ht hf
 rw [if_neg c1] at ht ⊢
 by_cases c2 : l.getD i 0 = 95
 · rw [if_pos c2] at ht ⊢; exact label_like hL hS hi ht hf
 rw [if_neg c2] at ht ⊢
 by_cases c3 : l.getD i 0 = 34 \/ l.getD i 0 = 39
 · rw [if_pos c3] at ht ⊢; exact quote_like hL hS hi c3 ht hf
 rw [if_neg c3] at ht ⊢
 by_cases c4 : l.getD i 0 = 64
 · rw [if_pos c4] at ht ⊢; exact at_like hL hS hi ht hf
 rw [if_neg c4] at ht ⊢
 by_cases c5 : l.getD i 0 = 43 \/ l.getD i 0 = 45 \/ l.getD i 0 = 46 \/ digC (l.getD i 0) = true
 · rw [if_pos c5] at ht ⊢; exact numTok_like hL hS hi ht hf
 rw [if_neg c5] at ht ⊢
 by_cases c6 : signs8.contains (l.getD i 0) = true
 · rw [if_pos c6] at ht ⊢
   cases ht
   simp only at hf
   rw [show m = 1 by omega]
   rfl
 rw [if_neg c6] at ht ⊢
 by_cases c7 : l.getD i 0 = 94 /\ i + 1 < l.length /\ l.getD (i + 1) 0 = 94
 · rw [if_pos c7] at ht
   cases ht
   simp only at hf
   have hm2 : m = 2 := by omega
   subst hm2
   rw [if_pos ⟨c7.1, by omega, (hL.at (k := 1) (by omega)).trans c7.2.2⟩]
   rfl
 · rw [if_neg c7] at ht
   rw [if_neg]
   · exact name_like hL hS hi ht hf
   rintro ⟨g1, g2, g3⟩
   by_cases hm1 : m = 1
   · subst hm1
     have := stop_get hS (p := fun c => c == 94) (by decide) (by decide)
     rw [g3] at this
     exact absurd this (by decide)
   · exact c7 ⟨g1, by omega, by rw [<- hL.at (k := 1) (by omega)]; exact g3⟩
end Go.Proofs.YtdhmpakhdhdebaaGreatDoor
namespace Go.Proofs.YtdhmpakhdhdebaaGreatDoor
open Go.RowKit
set_option maxRecDepth 100000
theorem byU_cont {v : Int} (hs : scal v = true) {k : Nat} (h0 : 0 < k) (hk : k < (byU v).length) : leadN ((byU v).getD k 0).toNat = 0 := by
 obtain ⟨h1, h2, _⟩ := scal_cases hs
 have hc : ∀ x : Int, 0 <= x -> x < 64 -> leadN (UInt8.ofNat ((128 + x) % 256).toNat).toNat = 0 := fun x hx hy => by
   rw [ofNat_toNat (by omega)]
   unfold leadN
   rw [if_neg (by omega), if_pos (by omega)]
 unfold byU bytesOf at hk ⊢
 split
 · next h => rw [if_pos h] at hk; simp at hk; omega
 · next h =>
   rw [if_neg h] at hk
   split
   · next h =>
     rw [if_pos h] at hk
     simp at hk
     rw [show k = 1 by omega]
     exact hc _ (by omega) (by omega)
   · next h =>
     rw [if_neg h] at hk
     split
     · next h =>
       rw [if_pos h] at hk
       simp at hk
       rcases (show k = 1 \/ k = 2 by omega) with rfl | rfl
       · exact hc _ (by omega) (by omega)
       · exact hc _ (by omega) (by omega)
     · next h =>
       rw [if_neg h] at hk
       simp at hk
       rcases (show k = 1 \/ k = 2 \/ k = 3 by omega) with rfl | rfl | rfl
       · exact hc _ (by omega) (by omega)
       · exact hc _ (by omega) (by omega)
       · exact hc _ (by omega) (by omega)
theorem next_within {l : List UInt8} {j n k : Nat} {v : Int} (hq : nextAt l (j : Int) = (v, n)) (h0 : 0 < k) (hk : k < n) : (nextAt l ((j + k : Nat) : Int)).2 = 0 := by
 have hn : n ≠ 0 := by omega
 obtain ⟨hb, hs⟩ := nextAt_bytes hq hn
 have hbd := nextAt_bound hq hn
 have hlen : (byU v).length = n := by rw [hb]; simp; omega
 have hc := byU_cont hs h0 (by omega)
 have hg : (byU v).getD k 0 = l.getD (j + k) 0 := by
   rw [hb]
   simp [List.getD_eq_getElem?_getD, hk]
 rw [hg] at hc
 rw [nextAt_at (by omega)]
 rw [List.getD_eq_getElem?_getD, List.getElem?_eq_getElem (by omega)] at hc
 rw [nextP_none (.inl (by simpa using hc))]
abbrev Ut (l : List UInt8) (j : Nat) : Prop := utfF l j = -1
theorem ut_step {l : List UInt8} {j n : Nat} {v : Int} (h : Ut l j) (hq : nextAt l (j : Int) = (v, n)) (hn : n ≠ 0) : Ut l (j + n) := by
 have hb := nextAt_bound hq hn
 have := h
 unfold Ut at this
 rw [utfF_go (by omega) hq hn] at this
 exact this
theorem ut_next {l : List UInt8} {j : Nat} (h : Ut l j) (hj : j < l.length) : ∃ v n, nextAt l (j : Int) = (v, n) /\ n ≠ 0 := by
 obtain ⟨v, n, hq⟩ : ∃ v n, nextAt l (j : Int) = (v, n) := ⟨_, _, rfl⟩
 refine ⟨v, n, hq, fun hn => ?_⟩
 subst hn
 unfold Ut at h
 rw [utfF_bad hj hq] at h
 omega
theorem ut_low {l : List UInt8} {j : Nat} (h : Ut l j) (hj : j < l.length) (hc : (l.getD j 0).toNat < 128) : Ut l (j + 1) := ut_step h (at_low hj hc) (by decide)
theorem ut_sync {l : List UInt8} {e : Nat} (he : l.length = e \/ (e < l.length /\ (l.getD e 0).toNat < 128)) : ∀ (c j : Nat), l.length - j <= c -> Ut l j -> j <= e -> Ut l e
 | c, j, hc, h, hj => by
   by_cases hje : j = e
   · rw [<- hje]; exact h
   obtain ⟨v, n, hq, hn⟩ := ut_next h (by rcases he with h | h <;> omega)
   have hb := nextAt_bound hq hn
   have hle : j + n <= e := by
     rcases he with he | ⟨he, hl⟩
     · omega
     · by_cases hx : j + n <= e
       · exact hx
       · exfalso
         have := next_within hq (k := e - j) (by omega) (by omega)
         rw [show j + (e - j) = e by omega, at_low he hl] at this
         simp at this
   match c, hc with
   | 0, hc => omega
   | c + 1, hc => exact ut_sync he c (j + n) (by omega) (ut_step h hq hn) hle
theorem ut_cut {l : List UInt8} {i e : Nat} (he : Ut l e) (hel : e <= l.length) : ∀ (c j : Nat), e - j <= c -> Ut l j -> i <= j -> j <= e -> utfF (cutF l i e) (j - i) = -1
 | c, j, hc, h, hi, hj => by
   have hlen : (cutF l i e).length = e - i := cutF_len2 hel
   by_cases hje : j = e
   · rw [utfF_end (by omega)]
   obtain ⟨v, n, hq, hn⟩ := ut_next h (by omega)
   have hb := nextAt_bound hq hn
   have hle : j + n <= e := by
     by_cases hx : j + n <= e
     · exact hx
     · exfalso
       have h2 := next_within hq (k := e - j) (by omega) (by omega)
       rw [show j + (e - j) = e by omega] at h2
       obtain ⟨v', n', hq', hn'⟩ := ut_next he (by omega)
       rw [hq'] at h2
       exact hn' h2
   have hq' : nextAt (cutF l i e) ((j - i : Nat) : Int) = (v, n) := by
     rw [nextAt_nat] at hq ⊢
     rw [cut_drop, show i + (j - i) = j by omega]
     exact nextP_long hq hn (by omega)
   rw [utfF_go (by omega) hq' hn, show j - i + n = j + n - i by omega]
   match c, hc with
   | 0, hc => omega
   | c + 1, hc => exact ut_cut he hel c (j + n) (by omega) (ut_step h hq hn) (by omega) hle
theorem dig_low {c : UInt8} (h : digC c = true) : c.toNat < 128 := by
 unfold digC at h
 simp at h
 omega
theorem tag_low {c : UInt8} (h : tagC c = true) : c.toNat < 128 := by
 unfold tagC alphaC digC at h
 simp only [Bool.or_eq_true, Bool.and_eq_true, decide_eq_true_eq, beq_iff_eq] at h
 rcases h with ((h | h) | h) | h
 · omega
 · omega
 · omega
 · rw [h]; decide
theorem blank_low {c : UInt8} (h : blankC c = true) : c.toNat < 128 := by
 unfold blankC at h
 simp only [Bool.or_eq_true, beq_iff_eq] at h
 rcases h with ((h | h) | h) | h <;> rw [h] <;> decide
theorem eol_low {c : UInt8} (h : eolC c = true) : c.toNat < 128 := by
 unfold eolC at h
 simp only [Bool.or_eq_true, beq_iff_eq] at h
 rcases h with h | h <;> rw [h] <;> decide
theorem exp_low {c : UInt8} (h : expC c = true) : c.toNat < 128 := by
 unfold expC at h
 simp only [Bool.or_eq_true, beq_iff_eq] at h
 rcases h with h | h <;> rw [h] <;> decide
theorem sign_low {c : UInt8} (h : signC c = true) : c.toNat < 128 := by
 unfold signC at h
 simp only [Bool.or_eq_true, beq_iff_eq] at h
 rcases h with h | h <;> rw [h] <;> decide
theorem hex_low {c : UInt8} (h : hexB (c.toNat : Int) = true) : c.toNat < 128 := by
 unfold hexB at h
 simp only [Bool.or_eq_true, decide_eq_true_eq] at h
 omega
theorem perc_low {l : List UInt8} {i : Nat} (h : percB (l.drop i) = true) : l.getD i 0 = 37 /\ (l.getD (i + 1) 0).toNat < 128 /\ (l.getD (i + 1 + 1) 0).toNat < 128 := by
 obtain ⟨a, b, c, t, hd⟩ : ∃ a b c t, l.drop i = a :: b :: c :: t := by
   match hx : l.drop i with
   | [] => rw [hx] at h; cases h
   | [_] => rw [hx] at h; cases h
   | [_, _] => rw [hx] at h; cases h
   | a :: b :: c :: t => exact ⟨a, b, c, t, rfl⟩
 have g : ∀ k, l.getD (i + k) 0 = (l.drop i).getD k 0 := fun k => by simp [List.getD_eq_getElem?_getD]
 rw [hd] at h
 simp only [percB, Bool.and_eq_true, decide_eq_true_eq] at h
 have g0 := g 0
 have g1 := g 1
 have g2 := g 2
 rw [hd] at g0 g1 g2
 simp only [Nat.add_zero, List.getD_cons_zero, List.getD_cons_succ] at g0 g1 g2
 refine ⟨by rw [g0]; exact h.1, by rw [g1]; exact hex_low h.2.1, by rw [show i + 1 + 1 = i + 2 by omega, g2]; exact hex_low h.2.2⟩
theorem esc_low {l : List UInt8} {i : Nat} (h : esc2 (l.drop i) = true) : (l.getD i 0).toNat < 128 /\ (l.getD (i + 1) 0).toNat < 128 := by
 obtain ⟨b, t, hd, hb⟩ := esc2_front h
 have g : ∀ k, l.getD (i + k) 0 = (l.drop i).getD k 0 := fun k => by simp [List.getD_eq_getElem?_getD]
 have g0 := g 0
 have g1 := g 1
 rw [hd] at g0 g1
 simp only [Nat.add_zero, List.getD_cons_zero, List.getD_cons_succ] at g0 g1
 refine ⟨by rw [g0]; decide, ?_⟩
 rw [g1]
 unfold escB at hb
 rw [List.any_eq_true] at hb
 obtain ⟨x, hx, hxb⟩ := hb
 have hl : ∀ c ∈ escs, c.toNat < 128 := by decide
 have := hl x hx
 simp at hxb
 omega
theorem scanI_at (l : List UInt8) : ∀ (c j e : Nat), l.length - j <= c -> scanI l j = .inl e -> l.getD e 0 = 62
 | c, j, e, hc, h => by
   by_cases hl : l.length <= j
   · rw [scanI_end hl] at h; cases h
   by_cases h6 : l.getD j 0 = 62
   · rw [scanI_hit (by omega) h6] at h; cases h; exact h6
   cases hb : badI (l.getD j 0) with
   | true => rw [scanI_bad (by omega) h6 hb] at h; cases h
   | false =>
     rw [scanI_go (by omega) h6 hb] at h
     match c, hc with
     | 0, hc => omega
     | c + 1, hc => exact scanI_at l c (j + 1) e (by omega) h
theorem lexEol_at (l : List UInt8) : ∀ (c i : Nat), l.length - i <= c -> i <= l.length -> eolF l i = l.length \/ (eolF l i < l.length /\ eolC (l.getD (eolF l i) 0) = true)
 | c, i, hc, hi => by
   by_cases hl : l.length <= i
   · rw [eolF_end hl]; exact .inl (by omega)
   cases hb : eolC (l.getD i 0) with
   | true => rw [eolF_hit (by omega) hb]; exact .inr ⟨by omega, hb⟩
   | false =>
     rw [eolF_go (by omega) hb]
     match c, hc with
     | 0, hc => omega
     | c + 1, hc => exact lexEol_at l c (i + 1) (by omega) (by omega)
theorem ut_dig (l : List UInt8) : ∀ (c i : Nat), l.length - i <= c -> Ut l i -> Ut l (digE l i)
 | c, i, hc, h => by
   by_cases hi : l.length <= i
   · rw [digE_end hi]; exact h
   cases hd : digC (l.getD i 0) with
   | false => rw [digE_stop (by omega) hd]; exact h
   | true =>
     rw [digE_go (by omega) hd]
     match c, hc with
     | 0, hc => omega
     | c + 1, hc => exact ut_dig l c (i + 1) (by omega) (ut_low h (by omega) (dig_low hd))
theorem ut_tag (l : List UInt8) : ∀ (c i : Nat), l.length - i <= c -> Ut l i -> Ut l (tagE l i)
 | c, i, hc, h => by
   by_cases hi : l.length <= i
   · rw [tagE_end hi]; exact h
   cases hd : tagC (l.getD i 0) with
   | false => rw [tagE_stop (by omega) hd]; exact h
   | true =>
     rw [tagE_go (by omega) hd]
     match c, hc with
     | 0, hc => omega
     | c + 1, hc => exact ut_tag l c (i + 1) (by omega) (ut_low h (by omega) (tag_low hd))
theorem ut_word (l : List UInt8) (d : Bool) : ∀ (c i : Nat), l.length - i <= c -> Ut l i -> Ut l (wordE l d i)
 | c, i, hc, h => by
   obtain ⟨v, n, hq⟩ : ∃ v n, nextAt l (i : Int) = (v, n) := ⟨_, _, rfl⟩
   by_cases hx : n = 0 \/ (followB v = false /\ ¬ (d = true /\ v = 46))
   · rw [wordE_stop hq hx]; exact h
   · have hn : n ≠ 0 := fun h => hx (.inl h)
     have hb := nextAt_bound hq hn
     rw [wordE_go hq hx]
     match c, hc with
     | 0, hc => omega
     | c + 1, hc => exact ut_word l d c (i + n) (by omega) (ut_step h hq hn)
theorem ut_tail (l : List UInt8) : ∀ (c i e : Nat), l.length - i <= c -> Ut l i -> Ut l e -> Ut l (tailF l i e)
 | c, i, e, hc, h, he => by
   obtain ⟨v, n, hq⟩ : ∃ v n, nextAt l (i : Int) = (v, n) := ⟨_, _, rfl⟩
   by_cases hs : n = 0 \/ (v ≠ 46 /\ followB v = false)
   · rw [tailF_stop hq hs]; exact he
   · have hn : n ≠ 0 := fun h => hs (.inl h)
     have hb := nextAt_bound hq hn
     have hu := ut_step h hq hn
     rw [tailF_go hq hs]
     match c, hc with
     | 0, hc => omega
     | c + 1, hc => exact ut_tail l c (i + n) _ (by omega) hu (by split; exact he; exact hu)
theorem ut_piece {l : List UInt8} {i : Nat} {f : Bool} (h : Ut l i) (hm : mayP (pieceF l i) f = true) : Ut l (i + (pieceF l i).2.1) := by
 have hb := pieceF_bound hm
 unfold pieceF at hm hb ⊢
 by_cases hp : percB (l.drop i) = true
 · rw [if_pos hp] at hb ⊢
   simp only at hb ⊢
   obtain ⟨hd1, hd2⟩ := perc_low hp
   have h1 := ut_low h (by omega) (by rw [hd1]; decide)
   have h2 := ut_low h1 (by omega) hd2.1
   exact ut_low h2 (by omega) hd2.2
 rw [if_neg hp] at hb hm ⊢
 by_cases he : esc2 (l.drop i) = true
 · rw [if_pos he] at hb ⊢
   simp only at hb ⊢
   have hd := esc_low he
   have h1 := ut_low h (by omega) hd.1
   exact ut_low h1 (by omega) hd.2
 rw [if_neg he] at hb hm ⊢
 obtain ⟨v, n, hq⟩ : ∃ v n, nextAt l (i : Int) = (v, n) := ⟨_, _, rfl⟩
 rw [hq] at hb hm ⊢
 simp only at hb hm ⊢
 by_cases hn : n = 0
 · rw [if_pos hn] at hb; simp at hb
 rw [if_neg hn] at hm ⊢
 by_cases hv : v = 37 \/ v = 92
 · rw [if_pos hv] at hm; exact absurd hm (by cases f <;> decide)
 rw [if_neg hv]
 exact ut_step h hq hn
theorem ut_loc (l : List UInt8) (a : Nat) : ∀ (c i e : Nat) (says kept : List UInt8), l.length - i <= c -> Ut l i -> Ut l e -> Ut l (locG l a i says e kept).1
 | c, i, e, says, kept, hc, h, he => by
   cases hm : mayP (pieceF l i) (decide (i = a)) with
   | false => rw [locG_stop hm]; exact he
   | true =>
     have hb := pieceF_bound hm
     have hu := ut_piece h hm
     rw [locG_go hm]
     match c, hc with
     | 0, hc => omega
     | c + 1, hc => exact ut_loc l a c _ _ _ _ (by omega) hu (by split; exact hu; exact he)
theorem ut_pow {l : List UInt8} {i : Nat} (h : Ut l i) : Ut l (powE l i) := by
 unfold powE
 split
 · exact h
 · next hn =>
   simp only [not_or, Bool.not_eq_false] at hn
   split
   · exact h
   · have h1 := ut_low h (by omega) (exp_low hn.2)
     refine ut_dig l l.length _ (by omega) ?_
     unfold expD
     split
     · next hs => exact ut_low h1 hs.1 (sign_low hs.2)
     · exact h1
theorem ut_num {l : List UInt8} {i : Nat} (h : Ut l i) : Ut l (numP l i).1 := by
 have hf : Ut l (numD l i) := by
   unfold numD
   split
   · next hs => exact ut_low h hs.1 (sign_low hs.2)
   · exact h
 unfold numP
 simp only
 generalize numD l i = f at hf ⊢
 have ha := ut_dig l l.length f (by omega) hf
 generalize digE l f = a at ha ⊢
 obtain ⟨dot, hdot⟩ : ∃ d, (decide (a < l.length) && l.getD a 0 == 46) = d := ⟨_, rfl⟩
 rw [hdot]
 have hd1 : dot = true -> Ut l (a + 1) := fun hd => by
   rw [hd] at hdot
   simp only [Bool.and_eq_true, decide_eq_true_eq, beq_iff_eq] at hdot
   exact ut_low ha hdot.1 (by rw [hdot.2]; decide)
 have hb : dot = true -> Ut l (digE l (a + 1)) := fun hd => ut_dig l l.length (a + 1) (by omega) (hd1 hd)
 generalize digE l (a + 1) = b at hb ⊢
 have hman : Ut l (if dot = true /\ a + 1 < b then b else if dot = true /\ f < a then a + 1 else a) := by
   split
   · next hx => exact hb hx.1
   · split
     · next hx => exact hd1 hx.1
     · exact ha
 generalize (if dot = true /\ a + 1 < b then b else if dot = true /\ f < a then a + 1 else a) = man at hman ⊢
 split
 · exact ut_pow hman
 · split
   · exact ut_pow ha
   · split
     · next hx => exact hb hx.1
     · split
       · exact ha
       · exact hf
theorem ut_tok {l : List UInt8} {i e : Nat} {t : TokL} (hi : i < l.length) (h : Ut l i) (ht : tokG l i = .inl t) (hf : t.fin = (e : Nat)) : Ut l e := by
 rw [<- tok_eq hi] at ht
 unfold tokP at ht
 have hlow : ∀ c : UInt8, l.getD i 0 = c -> c.toNat < 128 -> Ut l (i + 1) := fun c hc hl => ut_low h hi (by rw [hc]; exact hl)
 by_cases c1 : l.getD i 0 = 60
 · rw [if_pos c1] at ht
   unfold iriG at ht
   obtain ⟨x, hx⟩ : ∃ x, scanI l (i + 1) = x := ⟨_, rfl⟩
   have hb := scanI_bound l l.length (i + 1) (by omega) (by omega)
   rw [hx] at ht hb
   rcases x with x | p
   · have hh := scanI_at l l.length (i + 1) x (by omega) hx
     have hxb := hb.1 x rfl
     simp only at ht
     split at ht
     · cases ht
       simp only at hf
       rw [show e = x + 1 by omega]
       exact ut_low (ut_sync (.inr ⟨hxb.2, by rw [hh]; decide⟩) l.length i (by omega) h (by omega)) hxb.2 (by rw [hh]; decide)
     · cases ht
   · cases ht
 rw [if_neg c1] at ht
 by_cases c2 : l.getD i 0 = 95
 · rw [if_pos c2] at ht
   unfold labelG at ht
   split at ht
   · cases ht
   · next hn =>
     simp only [not_or, Classical.not_not] at hn
     split at ht
     · cases ht
     · next h0 =>
       cases ht
       simp only at hf
       have h2 : Ut l (i + 2) := ut_low (hlow _ c2 (by decide)) (by omega) (by rw [hn.2]; decide)
       obtain ⟨v, n, hq⟩ : ∃ v n, nextAt l ((i + 2 : Nat) : Int) = (v, n) := ⟨_, _, rfl⟩
       by_cases hs : n = 0 \/ labelB v = false
       · exact absurd (runF_no hq hs) h0
       have hn0 : n ≠ 0 := fun h => hs (.inl h)
       have htg := tailF_ge l l.length (i + 2 + n) (i + 2 + n) (by omega) (Nat.le_refl _)
       rw [runF_go hq hs] at hf
       have h3 := ut_step h2 hq hn0
       rw [show e = tailF l (i + 2 + n) (i + 2 + n) by omega]
       exact ut_tail l l.length _ _ (by omega) h3 h3
 rw [if_neg c2] at ht
 by_cases c3 : l.getD i 0 = 34 \/ l.getD i 0 = 39
 · rw [if_pos c3] at ht
   have hq : (l.getD i 0).toNat < 128 := by rcases c3 with c | c <;> rw [c] <;> decide
   unfold quoteG at ht
   obtain ⟨b, hb⟩ : ∃ b, threeB l (l.getD i 0) i = b := ⟨_, rfl⟩
   have hm0 : 0 < markN b := by cases b <;> decide
   rw [hb] at ht
   obtain ⟨x, hx⟩ : ∃ x, scanQ l (l.getD i 0) b (i + markN b) = x := ⟨_, rfl⟩
   have hbd := scanQ_bound l (l.getD i 0) b l.length (i + markN b) (by omega)
   rw [hx] at ht hbd
   rcases x with x | p
   · have hxb := hbd.1 x rfl
     simp only at ht
     split at ht
     · cases ht
       simp only at hf
       rw [show e = x + markN b by omega]
       have hcl := close_len hxb.2.2 hxb.2.1
       have hat := hxb.2.2
       unfold closeB at hat
       cases b with
       | false =>
         rw [if_neg (by simp), beq_iff_eq] at hat
         have hl : (l.getD x 0).toNat < 128 := by rw [hat]; exact hq
         exact ut_low (ut_sync (.inr ⟨hxb.2.1, hl⟩) l.length i (by omega) h (by omega)) hxb.2.1 hl
       | true =>
         rw [if_pos rfl] at hat
         unfold threeB at hat
         simp only [Bool.and_eq_true, decide_eq_true_eq, beq_iff_eq] at hat
         obtain ⟨hx2, a0, a1, a2⟩ := hat
         have u0 := ut_sync (.inr ⟨hxb.2.1, by rw [a0]; exact hq⟩) l.length i (by omega) h (by omega)
         have u1 := ut_low u0 hxb.2.1 (by rw [a0]; exact hq)
         have u2 := ut_low u1 (by omega) (by rw [a1]; exact hq)
         exact ut_low u2 (by omega) (by rw [a2]; exact hq)
     · cases ht
   · cases ht
 rw [if_neg c3] at ht
 by_cases c4 : l.getD i 0 = 64
 · rw [if_pos c4] at ht
   have h1 := ut_tag l l.length (i + 1) (by omega) (hlow _ c4 (by decide))
   unfold atG at ht
   split at ht
   · cases ht; simp only at hf; rw [show e = tagE l (i + 1) by omega]; exact h1
   · split at ht
     · cases ht
     · cases ht; simp only at hf; rw [show e = tagE l (i + 1) by omega]; exact h1
 rw [if_neg c4] at ht
 by_cases c5 : l.getD i 0 = 43 \/ l.getD i 0 = 45 \/ l.getD i 0 = 46 \/ digC (l.getD i 0) = true
 · rw [if_pos c5] at ht
   unfold numTok at ht
   split at ht
   · cases ht; simp only at hf; rw [show e = (numP l i).1 by omega]; exact ut_num h
   · split at ht
     · next h46 => cases ht; simp only at hf; rw [show e = i + 1 by omega]; exact hlow _ h46 (by decide)
     · cases ht
 rw [if_neg c5] at ht
 by_cases c6 : signs8.contains (l.getD i 0) = true
 · rw [if_pos c6] at ht
   cases ht
   simp only at hf
   rw [show e = i + 1 by omega]
   refine ut_low h hi ?_
   have : ∀ c ∈ signs8, c.toNat < 128 := by decide
   exact this _ (by simpa using c6)
 rw [if_neg c6] at ht
 by_cases c7 : l.getD i 0 = 94 /\ i + 1 < l.length /\ l.getD (i + 1) 0 = 94
 · rw [if_pos c7] at ht
   cases ht
   simp only at hf
   rw [show e = i + 2 by omega]
   exact ut_low (hlow _ c7.1 (by decide)) c7.2.1 (by rw [c7.2.2]; decide)
 rw [if_neg c7] at ht
 unfold nameG at ht
 obtain ⟨x, hx⟩ : ∃ x, prefE l i = x := ⟨_, rfl⟩
 rw [hx] at ht
 cases x with
 | some p =>
   cases ht
   simp only at hf
   have hp := prefE_some hx
   have h1 : Ut l p := by rw [hp.1]; exact ut_word l true l.length i (by omega) h
   have h2 := ut_low h1 hp.2.1 (by rw [hp.2.2.1]; decide)
   rw [show e = (localG l (p + 1)).1 by omega]
   exact ut_loc l (p + 1) l.length _ _ _ _ (by omega) h2 h2
 | none =>
   have h1 := ut_word l false l.length i (by omega) h
   simp only at ht
   unfold wordG at ht
   split at ht
   · cases ht; simp only at hf; rw [show e = wordE l false i by omega]; exact h1
   · split at ht
     · cases ht; simp only at hf; rw [show e = wordE l false i by omega]; exact h1
     · cases ht
theorem ut_gap (l : List UInt8) : ∀ (c i : Nat), l.length - i <= c -> i <= l.length -> Ut l i -> Ut l (gapF l i)
 | c, i, hc, hi, h => by
   by_cases hl : l.length <= i
   · rw [gapF_end hl]; exact h
   match c, hc with
   | 0, hc => omega
   | c + 1, hc =>
     cases hb : blankC (l.getD i 0) with
     | true =>
       rw [gapF_blank (by omega) hb]
       exact ut_gap l c (i + 1) (by omega) (by omega) (ut_low h (by omega) (blank_low hb))
     | false =>
       by_cases h3 : l.getD i 0 = 35
       · rw [gapF_hash (by omega) h3]
         have hbd := eolF_bound l l.length (i + 1) (by omega) (by omega)
         have he := lexEol_at l l.length (i + 1) (by omega) (by omega)
         exact ut_gap l c _ (by omega) hbd.2 (ut_sync (by
           rcases he with he | he
           · exact .inl he.symm
           · exact .inr ⟨he.1, eol_low he.2⟩) l.length i (by omega) h (by omega))
       · rw [gapF_stop (by omega) hb h3]; exact h
end Go.Proofs.YtdhmpakhdhdebaaGreatDoor
namespace Go.Proofs.YtdhmpakhdhdebaaGreatDoor
open Go.RowKit
set_option maxRecDepth 100000
structure TokOf (l : List UInt8) (t : TokL) (a e : Nat) : Prop where
 at_ : t.at_ = (a : Nat)
 fin : t.fin = (e : Nat)
 lt : a < e
 le : e <= l.length
 tok : tokG l a = .inl t
 blank : blankC (l.getD a 0) = false
 hash : l.getD a 0 ≠ 35
 text : t.text.length <= 65536
 loc : t.loc.length <= 65536
 ua : Ut l a
 ue : Ut l e
 kind : 1 <= t.kind
theorem gap_at (l : List UInt8) : ∀ (c i : Nat), l.length - i <= c -> i <= l.length -> gapF l i = l.length \/ (blankC (l.getD (gapF l i) 0) = false /\ l.getD (gapF l i) 0 ≠ 35)
 | c, i, hc, hi => by
   by_cases hl : l.length <= i
   · rw [gapF_end hl]; exact .inl (by omega)
   match c, hc with
   | 0, hc => omega
   | c + 1, hc =>
     cases hb : blankC (l.getD i 0) with
     | true => rw [gapF_blank (by omega) hb]; exact gap_at l c (i + 1) (by omega) (by omega)
     | false =>
       by_cases h3 : l.getD i 0 = 35
       · rw [gapF_hash (by omega) h3]
         have hbd := eolF_bound l l.length (i + 1) (by omega) (by omega)
         exact gap_at l c _ (by omega) hbd.2
       · rw [gapF_stop (by omega) hb h3]; exact .inr ⟨hb, h3⟩
theorem next_tok {l : List UInt8} {less : Bool} {i : Nat} {t : TokL} (hi : i <= l.length) (hu : Ut l i) (h : stepG l less i = .inl t) (hk : t.kind ≠ 0) : ∃ e, TokOf l t (gapF l i) e /\ i <= gapF l i := by
 have hs := ((step_at (less := less) hi).1 t h).1
 have hg := gap_le hi
 rcases hs with ⟨rfl, _⟩ | ⟨hgl, htk, ⟨ha, ⟨e, he, h1, h2⟩, hk1, _⟩, ht, hl⟩
 · exact absurd rfl hk
 · have hga := (gap_at l l.length i (by omega) hi).resolve_left (by omega)
   have hua := ut_gap l l.length i (by omega) hi hu
   exact ⟨e, ⟨ha, he, h1, h2, htk, hga.1, hga.2, ht, hl, hua, ut_tok hgl hua htk he, hk1⟩, hg.1⟩
theorem toks_all (l : List UInt8) (less : Bool) : ∀ (c i : Nat), l.length - i <= c -> i <= l.length -> Ut l i -> ∀ t ∈ (toksF l less i).1, ∃ a e, TokOf l t a e
 | c, i, hc, hi, hu, t, ht => by
   obtain ⟨x, hx⟩ : ∃ x, stepG l less i = x := ⟨_, rfl⟩
   rcases x with u | f
   · by_cases hk : u.kind = 0
     · rw [toksF_end hx hk] at ht; simp at ht
     · obtain ⟨hgo, h1, h2, h3⟩ := toksF_go hi hx hk
       obtain ⟨e, he, _⟩ := next_tok hi hu hx hk
       rw [hgo] at ht
       rcases List.mem_cons.1 ht with rfl | ht
       · exact ⟨_, _, he⟩
       · match c, hc with
         | 0, hc => omega
         | c + 1, hc => exact toks_all l less c _ (by omega) h2 (by have := he.ue; rw [show e = u.fin.toNat by have := he.fin; omega] at this; exact this) t ht
   · rw [toksF_bad hx] at ht; simp at ht
theorem step_end (l : List UInt8) : stepG l false l.length = .inl ⟨0, [], [], [], (l.length : Nat), (l.length : Nat)⟩ := by
 unfold stepG nextG
 rw [gapF_end (Nat.le_refl _), if_pos rfl]
 simp
theorem step_tok {l l' : List UInt8} {t : TokL} {a e i' : Nat} (h : TokOf l t a e) (hL : Like l a l' i' (e - a)) (hS : Stop l' (i' + (e - a))) : stepG l' false i' = .inl (moved t i' (i' + (e - a))) := by
 have hlt := h.lt
 have hb := hL.b
 have h0 := hL.at (k := 0) (by omega)
 rw [Nat.add_zero, Nat.add_zero] at h0
 have hg : gapF l' i' = i' := gapF_stop (by omega) (by rw [h0]; exact h.blank) (by rw [h0]; exact h.hash)
 have ht := tok_like hL hS (by have := h.le; omega) h.tok (by have := h.fin; rw [this]; congr 1; omega)
 have hx : ¬ (65536 < (moved t i' (i' + (e - a))).text.length \/ 65536 < (moved t i' (i' + (e - a))).loc.length) := by
   have h1 := h.text
   have h2 := h.loc
   show ¬ (65536 < t.text.length \/ 65536 < t.loc.length)
   omega
 unfold stepG nextG
 rw [hg, if_neg (by omega), ht]
 simp only
 rw [if_neg hx]
 simp
theorem cut_like {l : List UInt8} {a e : Nat} (hae : a <= e) (he : e <= l.length) : Like l a (cutF l a e) 0 (e - a) := by
 have hlen : (cutF l a e).length = e - a := cutF_len2 he
 refine ⟨by omega, by omega, ?_⟩
 rw [List.drop_zero, List.take_of_length_le (by omega)]
 rfl
theorem once {l : List UInt8} {t : TokL} {a e : Nat} (h : TokOf l t a e) : utfF (cutF l a e) 0 = -1 /\ toksF (cutF l a e) false 0 = ([moved t 0 (e - a)], none) := by
 have hlt := h.lt
 have hlen : (cutF l a e).length = e - a := cutF_len2 h.le
 refine ⟨?_, ?_⟩
 · have := ut_cut h.ue h.le l.length a (by have := h.le; omega) h.ua (Nat.le_refl _) (by omega)
   rwa [Nat.sub_self] at this
 · have hs := step_tok h (cut_like (by omega) h.le) (.inl (by omega))
   rw [Nat.zero_add] at hs
   have hk : (moved t 0 (e - a)).kind ≠ 0 := by have := h.kind; show t.kind ≠ 0; omega
   have hf : (moved t 0 (e - a)).fin.toNat = (cutF l a e).length := by show ((e - a : Nat) : Int).toNat = _; omega
   rw [(toksF_go (by omega) hs hk).1, hf, toksF_end (step_end _) rfl]
def worksW : List UInt8 := [60, 97, 62, 32, 97, 32, 98, 58, 99, 46, 100, 44, 32, 49, 46, 53, 46]
theorem works_toks : utfF worksW 0 = -1 /\ toksF worksW false 0 = ([⟨1, [97], [], [], 0, 3⟩, ⟨7, [97], [], [], 4, 5⟩, ⟨2, [98], [99, 46, 100], [], 6, 11⟩, ⟨8, [44], [], [], 11, 12⟩, ⟨6, [49, 46, 53], [], xsdW ++ decimalN, 13, 16⟩, ⟨8, [46], [], [], 16, 17⟩], none) := by
 decide +kernel
end Go.Proofs.YtdhmpakhdhdebaaGreatDoor
namespace Go.Proofs.YtdhmpakhdhdebaaGreatDoor
open Go.RowKit
set_option maxRecDepth 100000
structure Rest (l : List UInt8) (i : Nat) (l' : List UInt8) (i' M : Nat) : Prop where
 L : Like l i l' i' M
 S : Stop l' (i' + M)
 whole : i + M = l.length
 hash : l'.getD (i' + M) 0 ≠ 35
theorem Rest.next {l l' : List UInt8} {i i' M k : Nat} (h : Rest l i l' i' M) (hk : k < M) (hu : Ut l (i + k)) : ∃ v n, nextAt l ((i + k : Nat) : Int) = (v, n) /\ n ≠ 0 /\ k + n <= M /\ nextAt l' ((i' + k : Nat) : Int) = (v, n) := by
 have hw := h.whole
 obtain ⟨v, n, hq, hn⟩ := ut_next hu (by omega)
 have hb := nextAt_bound hq hn
 exact ⟨v, n, hq, hn, by omega, h.L.next hq hn (by omega)⟩
theorem dig_all {l l' : List UInt8} {i i' M k x : Nat} (h : Rest l i l' i' M) (hk : k <= M) (hx : digE l (i + k) = i + x) : digE l' (i' + k) = i' + x := by
 have hw := h.whole
 have hle := digE_le (l := l) (i := i + k) (by omega)
 have hge := digE_ge l (i + k)
 by_cases hm : x = M
 · subst hm; exact digE_like h.L h.S x k (by omega) hx hk
 · exact digE_in h.L (by omega) M k (by omega) hx (by omega)
theorem tag_all {l l' : List UInt8} {i i' M : Nat} (h : Rest l i l' i' M) : ∀ (c k x : Nat), M - k <= c -> k <= M -> tagE l (i + k) = i + x -> tagE l' (i' + k) = i' + x
 | c, k, x, hc, hk, hx => by
   have hw := h.whole
   have hb := h.L.b
   by_cases hkm : k = M
   · subst hkm
     rw [tagE_end (by omega)] at hx
     have : k = x := by omega
     subst this
     by_cases hl : l'.length <= i' + k
     · exact tagE_end hl
     · exact tagE_stop (by omega) (stop_get h.S (p := tagC) (by decide) (by decide))
   have hc2 := h.L.at (k := k) (by omega)
   cases ht : tagC (l.getD (i + k) 0) with
   | false => rw [tagE_stop (by omega) ht] at hx; rw [tagE_stop (by omega) (hc2 ▸ ht)]; omega
   | true =>
     rw [tagE_go (by omega) ht] at hx
     match c, hc with
     | 0, hc => omega
     | c + 1, hc =>
       rw [tagE_go (by omega) (hc2 ▸ ht)]
       exact tag_all h c (k + 1) x (by omega) (by omega) hx
theorem word_all {l l' : List UInt8} {i i' M : Nat} (h : Rest l i l' i' M) (d : Bool) : ∀ (c k x : Nat), M - k <= c -> k <= M -> Ut l (i + k) -> wordE l d (i + k) = i + x -> wordE l' d (i' + k) = i' + x
 | c, k, x, hc, hk, hu, hx => by
   have hw := h.whole
   by_cases hkm : k = M
   · subst hkm
     rw [wordE_stop (nextAt_out (.inr (by omega))) (.inl rfl)] at hx
     have : k = x := by omega
     subst this
     exact word_stop d h.S
   obtain ⟨v, n, hq, hn, hf, hq'⟩ := h.next (k := k) (by omega) hu
   by_cases hs : n = 0 \/ (followB v = false /\ ¬ (d = true /\ v = 46))
   · rw [wordE_stop hq hs] at hx; rw [wordE_stop hq' hs]; omega
   · rw [wordE_go hq hs, Nat.add_assoc] at hx
     match c, hc with
     | 0, hc => omega
     | c + 1, hc =>
       rw [wordE_go hq' hs, Nat.add_assoc]
       exact word_all h d c (k + n) x (by omega) hf (by rw [<- Nat.add_assoc]; exact ut_step hu hq hn) hx
theorem tail_all {l l' : List UInt8} {i i' M : Nat} (h : Rest l i l' i' M) : ∀ (c k q x : Nat), M - k <= c -> k <= M -> Ut l (i + k) -> tailF l (i + k) (i + q) = i + x -> tailF l' (i' + k) (i' + q) = i' + x
 | c, k, q, x, hc, hk, hu, hx => by
   have hw := h.whole
   by_cases hkm : k = M
   · subst hkm
     rw [tailF_stop (nextAt_out (.inr (by omega))) (.inl rfl)] at hx
     obtain ⟨v, n, hn, hs⟩ := stop_next h.S
     rw [tailF_stop hn (by rcases hs with h | h; exact .inl h; exact .inr ⟨h.2.1, h.1⟩)]
     omega
   obtain ⟨v, n, hq, hn, hf, hq'⟩ := h.next (k := k) (by omega) hu
   by_cases hs : n = 0 \/ (v ≠ 46 /\ followB v = false)
   · rw [tailF_stop hq hs] at hx; rw [tailF_stop hq' hs]; omega
   · rw [tailF_go hq hs] at hx
     rw [tailF_go hq' hs]
     have hu2 : Ut l (i + (k + n)) := by rw [<- Nat.add_assoc]; exact ut_step hu hq hn
     match c, hc with
     | 0, hc => omega
     | c + 1, hc =>
       by_cases hv : v = 46
       · rw [if_pos hv, Nat.add_assoc] at hx
         rw [if_pos hv, Nat.add_assoc]
         exact tail_all h c (k + n) q x (by omega) hf hu2 hx
       · rw [if_neg hv, Nat.add_assoc] at hx
         rw [if_neg hv, Nat.add_assoc]
         exact tail_all h c (k + n) (k + n) x (by omega) hf hu2 hx
theorem rest_drop {l l' : List UInt8} {i i' M k : Nat} (h : Rest l i l' i' M) (hk : k <= M) : ∃ x', l'.drop (i' + k) = l.drop (i + k) ++ x' /\ (x' = [] \/ ∃ c t, x' = c :: t /\ blankC c = true) := by
 have hw := h.whole
 have hL := h.L.step (k := k) (n := M - k) (by omega)
 have hb := h.L.b
 refine ⟨l'.drop (i' + M), ?_, ?_⟩
 · have h1 := hL.c
   rw [List.take_of_length_le (l := l.drop (i + k)) (by simp; omega)] at h1
   rw [<- h1, show i' + M = i' + k + (M - k) by omega, <- List.drop_drop (i := M - k) (j := i' + k), List.take_append_drop]
 · by_cases hl : l'.length <= i' + M
   · exact .inl (List.drop_eq_nil_of_le hl)
   · refine .inr ⟨_, _, List.drop_eq_getElem_cons (by omega), ?_⟩
     have hs := h.S
     have hh := h.hash
     rcases hs with hs | hs
     · exact absurd hs hl
     · have hg : l'.getD (i' + M) 0 = l'[i' + M] := by simp [List.getD_eq_getElem?_getD, List.getElem?_eq_getElem (show i' + M < l'.length by omega)]
       rw [hg] at hs hh
       unfold stopC at hs
       simp only [Bool.or_eq_true, beq_iff_eq] at hs
       exact hs.resolve_right hh
theorem blank_cases {c : UInt8} (h : blankC c = true) : c = 32 \/ c = 9 \/ c = 13 \/ c = 10 := by
 unfold blankC at h
 simp only [Bool.or_eq_true, beq_iff_eq] at h
 rcases h with ((h | h) | h) | h <;> simp [h]
theorem perc_more {u x : List UInt8} (h : x = [] \/ ∃ c t, x = c :: t /\ blankC c = true) : percB (u ++ x) = percB u := by
 rcases h with rfl | ⟨c, t, rfl, hc⟩
 · rw [List.append_nil]
 · have hh : hexB (c.toNat : Int) = false := by rcases blank_cases hc with h | h | h | h <;> rw [h] <;> decide
   have h37 : c ≠ 37 := by rcases blank_cases hc with h | h | h | h <;> rw [h] <;> decide
   match u with
   | [] =>
     rw [List.nil_append]
     have : percB (c :: t) = false := percB_head h37
     rw [this]; rfl
   | [a] =>
     match t with
     | [] => rfl
     | b :: t => simp [percB, hh]
   | [a, b] => simp [percB, hh]
   | a :: b :: d :: r => rfl
theorem esc_more {u x : List UInt8} (h : x = [] \/ ∃ c t, x = c :: t /\ blankC c = true) : esc2 (u ++ x) = esc2 u := by
 rcases h with rfl | ⟨c, t, rfl, hc⟩
 · rw [List.append_nil]
 · have hh : escB (c.toNat : Int) = false := by rcases blank_cases hc with h | h | h | h <;> rw [h] <;> decide
   have h92 : c ≠ 92 := by rcases blank_cases hc with h | h | h | h <;> rw [h] <;> decide
   match u with
   | [] =>
     rw [List.nil_append]
     have : esc2 (c :: t) = false := esc2_head h92
     rw [this]; rfl
   | [a] => simp [esc2, hh]
   | a :: b :: r => rfl
theorem piece_all {l l' : List UInt8} {i i' M k : Nat} (h : Rest l i l' i' M) (hk : k < M) (hu : Ut l (i + k)) : pieceF l' (i' + k) = pieceF l (i + k) := by
 have hw := h.whole
 obtain ⟨x', hd, hx'⟩ := rest_drop h (k := k) (by omega)
 obtain ⟨x2, hd2, hx2⟩ := rest_drop h (k := k + 1) (by omega)
 obtain ⟨v, n, hq, hn, hf, hq'⟩ := h.next hk hu
 unfold pieceF
 rw [hq, hq', hd, perc_more hx', esc_more hx', show i' + k + 1 = i' + (k + 1) by omega, show i + k + 1 = i + (k + 1) by omega, hd2]
 by_cases hp : percB (l.drop (i + k)) = true
 · have h3 := percB_len hp
   rw [if_pos hp, if_pos hp, List.take_append_of_le_length h3]
 rw [if_neg hp, if_neg hp]
 by_cases he : esc2 (l.drop (i + k)) = true
 · obtain ⟨b, t, e, _⟩ := esc2_front he
   have hl := congrArg List.length e
   simp at hl
   rw [if_pos he, if_pos he, List.take_append_of_le_length (by simp; omega)]
 rw [if_neg he, if_neg he]
 simp only
 rw [List.take_append_of_le_length (by simp; omega)]
theorem loc_all {l l' : List UInt8} {i i' M a : Nat} (h : Rest l i l' i' M) : ∀ (c k q x : Nat) (says kept K : List UInt8), M - k <= c -> k <= M -> Ut l (i + k) -> locG l (i + a) (i + k) says (i + q) kept = (i + x, K) -> locG l' (i' + a) (i' + k) says (i' + q) kept = (i' + x, K)
 | c, k, q, x, says, kept, K, hc, hk, hu, hr => by
   have hw := h.whole
   by_cases hkm : k = M
   · subst hkm
     have hs : mayP (pieceF l (i + k)) (decide (i + k = i + a)) = false := piece_stop _ (.inl (by omega))
     rw [locG_stop hs] at hr
     rw [locG_stop (piece_stop _ h.S)]
     have h1 := congrArg Prod.fst hr
     have h2 := congrArg Prod.snd hr
     simp only at h1 h2
     rw [h2, show q = x by omega]
   have hd : decide (i' + k = i' + a) = decide (i + k = i + a) := by
     by_cases h : k = a
     · rw [decide_eq_true (show i' + k = i' + a by omega), decide_eq_true (show i + k = i + a by omega)]
     · rw [decide_eq_false (show ¬ i' + k = i' + a by omega), decide_eq_false (show ¬ i + k = i + a by omega)]
   have hp := piece_all h (k := k) (by omega) hu
   cases hm : mayP (pieceF l (i + k)) (decide (i + k = i + a)) with
   | false =>
     rw [locG_stop hm] at hr
     rw [locG_stop (by rw [hp, hd]; exact hm)]
     have h1 := congrArg Prod.fst hr
     have h2 := congrArg Prod.snd hr
     simp only at h1 h2
     rw [h2, show q = x by omega]
   | true =>
     have hb := pieceF_bound hm
     have hu2 : Ut l (i + (k + (pieceF l (i + k)).2.1)) := by rw [<- Nat.add_assoc]; exact ut_piece hu hm
     rw [locG_go hm] at hr
     rw [locG_go (by rw [hp, hd]; exact hm), hp, hd]
     generalize pieceF l (i + k) = p at hb hr hu2 ⊢
     match c, hc with
     | 0, hc => omega
     | c + 1, hc =>
       cases hl : lastP p (decide (i + k = i + a)) with
       | true =>
         rw [hl, if_pos rfl, if_pos rfl, Nat.add_assoc] at hr
         rw [if_pos rfl, if_pos rfl, Nat.add_assoc]
         exact loc_all h c (k + p.2.1) (k + p.2.1) x _ _ K (by omega) (by omega) hu2 hr
       | false =>
         rw [hl, if_neg (by simp), if_neg (by simp), Nat.add_assoc] at hr
         rw [if_neg (by simp), if_neg (by simp), Nat.add_assoc]
         exact loc_all h c (k + p.2.1) q x _ _ K (by omega) (by omega) hu2 hr
theorem pow_all {l l' : List UInt8} {i i' M k x : Nat} (h : Rest l i l' i' M) (hk : k <= M) (hx : powE l (i + k) = i + x) : powE l' (i' + k) = i' + x := by
 have hw := h.whole
 have hb := h.L.b
 by_cases hkm : k = M
 · subst hkm
   rw [powE_no (.inl (by omega))] at hx
   rw [stop_pow h.S]; omega
 have hc := h.L.at (k := k) (by omega)
 unfold powE at hx
 split at hx
 · next hn =>
   rw [powE_no (by
     rcases hn with hn | hn
     · omega
     · exact .inr (by rw [hc]; exact hn))]
   omega
 · next hn =>
   simp only [not_or, Bool.not_eq_false] at hn
   have hg := expD_gt l (i + k)
   obtain ⟨y, hy⟩ : ∃ y, expD l (i + k) = i + y := ⟨expD l (i + k) - i, by omega⟩
   have hyM : y <= M := by omega
   have hy' : expD l' (i' + k) = i' + y := by
     unfold expD at hy ⊢
     by_cases h1 : k + 1 < M
     · have h2 := h.L.at (k := k + 1) h1
       rw [show i' + k + 1 = i' + (k + 1) by omega, h2]
       rw [show i + k + 1 = i + (k + 1) by omega] at hy
       split at hy
       · next h => rw [if_pos ⟨by omega, h.2⟩]; omega
       · next h => rw [if_neg (fun x => h ⟨by omega, x.2⟩)]; omega
     · rw [if_neg (by omega)] at hy
       have : signC (l'.getD (i' + k + 1) 0) = false := by
         rw [show i' + k + 1 = i' + M by omega]
         exact stop_get h.S (p := signC) (by decide) (by decide)
       rw [if_neg (by rw [this]; simp)]
       omega
   obtain ⟨z, hz⟩ : ∃ z, digE l (i + y) = i + z := ⟨digE l (i + y) - i, by have := digE_ge l (i + y); omega⟩
   have hz' := dig_all h hyM hz
   rw [hy, hz] at hx
   split at hx
   · next he =>
     rw [powE_none (by rw [hy', hz']; omega)]; omega
   · next he =>
     rw [powE_some (by omega) (by rw [hc]; exact hn.2) (by rw [hy', hz']; omega), hy', hz']; omega
theorem num_all {l l' : List UInt8} {i i' M x : Nat} (h : Rest l i l' i' M) (hM : 0 < M) (hx : (numP l i).1 = i + x) : numP l' i' = (i' + x, (numP l i).2) /\ ∃ f, numD l i = i + f /\ numD l' i' = i' + f := by
 have hw := h.whole
 have hb' := h.L.b
 obtain ⟨f, hnf⟩ : ∃ f, numD l i = i + f := ⟨numD l i - i, by have := numD_gt l i; omega⟩
 have hnf' := numD_like h.L hM hnf
 refine ⟨?_, f, hnf, hnf'⟩
 have hfM : f <= M := by have := numD_gt l i; omega
 obtain ⟨a, hna⟩ : ∃ a, digE l (i + f) = i + a := ⟨digE l (i + f) - i, by have := digE_ge l (i + f); omega⟩
 have hna' := dig_all h hfM hna
 have haM : a <= M := by have := digE_le (l := l) (i := i + f) (by omega); omega
 obtain ⟨p, hp⟩ : ∃ p, powE l (i + a) = i + p := ⟨powE l (i + a) - i, by have := (powE_bound l (i + a)).1; omega⟩
 have hp' := pow_all h haM hp
 obtain ⟨dot, hdot⟩ : ∃ d, (decide (i + a < l.length) && l.getD (i + a) 0 == 46) = d := ⟨_, rfl⟩
 have hdot' : (decide (i' + a < l'.length) && l'.getD (i' + a) 0 == 46) = dot := by
   by_cases h1 : a < M
   · rw [h.L.at h1, decide_eq_true (show i' + a < l'.length by omega), <- hdot, decide_eq_true (show i + a < l.length by omega)]
   · rw [show a = M by omega, stop_dot h.S, <- hdot, decide_eq_false (show ¬ i + a < l.length by omega)]; rfl
 unfold numP at hx ⊢
 simp only [hnf, hna, hp, hdot] at hx ⊢
 simp only [hnf', hna', hp', hdot']
 cases dot with
 | false =>
   simp only [Bool.false_eq_true, false_and, if_false, hp, hp'] at hx ⊢
   by_cases h1 : a < p /\ f < a
   · rw [if_pos (show i + a < i + p /\ i + f < i + a by omega)] at hx ⊢
     rw [if_pos (show i' + a < i' + p /\ i' + f < i' + a by omega)]
     simp only at hx ⊢
     rw [show p = x by omega]
   · rw [if_neg (show ¬ (i + a < i + p /\ i + f < i + a) by omega), if_neg (show ¬ (i + a < i + p /\ i + f < i + a) by omega)] at hx ⊢
     rw [if_neg (show ¬ (i' + a < i' + p /\ i' + f < i' + a) by omega), if_neg (show ¬ (i' + a < i' + p /\ i' + f < i' + a) by omega)]
     by_cases h2 : f < a
     · rw [if_pos (show i + f < i + a by omega)] at hx ⊢
       rw [if_pos (show i' + f < i' + a by omega)]
       simp only at hx ⊢
       rw [show a = x by omega]
     · rw [if_neg (show ¬ i + f < i + a by omega)] at hx ⊢
       rw [if_neg (show ¬ i' + f < i' + a by omega)]
       simp only at hx ⊢
       rw [show f = x by omega]
 | true =>
   have haM' : a + 1 <= M := by
     simp only [Bool.and_eq_true, decide_eq_true_eq] at hdot
     omega
   obtain ⟨b, hnb⟩ : ∃ b, digE l (i + a + 1) = i + b := ⟨digE l (i + a + 1) - i, by have := digE_ge l (i + a + 1); omega⟩
   have hnb' : digE l' (i' + a + 1) = i' + b := dig_all (k := a + 1) h haM' hnb
   have hbM : b <= M := by have := digE_le (l := l) (i := i + a + 1) (by omega); omega
   simp only [hnb, hnb', true_and] at hx ⊢
   obtain ⟨m, hm⟩ : ∃ m, m = if a + 1 < b then b else if f < a then a + 1 else a := ⟨_, rfl⟩
   have hmM : m <= M := by rw [hm]; split; omega; split <;> omega
   have e1 : (if i + a + 1 < i + b then i + b else if i + f < i + a then i + a + 1 else i + a) = i + m := by
     rw [hm]
     by_cases h1 : a + 1 < b
     · rw [if_pos h1, if_pos (by omega)]
     · rw [if_neg h1, if_neg (by omega)]
       by_cases h2 : f < a
       · rw [if_pos h2, if_pos (by omega), Nat.add_assoc]
       · rw [if_neg h2, if_neg (by omega)]
   have e2 : (if i' + a + 1 < i' + b then i' + b else if i' + f < i' + a then i' + a + 1 else i' + a) = i' + m := by
     rw [hm]
     by_cases h1 : a + 1 < b
     · rw [if_pos h1, if_pos (by omega)]
     · rw [if_neg h1, if_neg (by omega)]
       by_cases h2 : f < a
       · rw [if_pos h2, if_pos (by omega), Nat.add_assoc]
       · rw [if_neg h2, if_neg (by omega)]
   rw [e1] at hx ⊢
   rw [e2]
   obtain ⟨r, hr⟩ : ∃ r, powE l (i + m) = i + r := ⟨powE l (i + m) - i, by have := (powE_bound l (i + m)).1; omega⟩
   have hr' := pow_all h hmM hr
   rw [hr] at hx ⊢
   rw [hr']
   clear e1 e2 hm
   by_cases h1 : m < r /\ f < m
   · rw [if_pos (show i + m < i + r /\ i + f < i + m by omega)] at hx ⊢
     rw [if_pos (show i' + m < i' + r /\ i' + f < i' + m by omega)]
     simp only at hx ⊢
     rw [show r = x by omega]
   rw [if_neg (show ¬ (i + m < i + r /\ i + f < i + m) by omega)] at hx ⊢
   rw [if_neg (show ¬ (i' + m < i' + r /\ i' + f < i' + m) by omega)]
   by_cases h2 : a < p /\ f < a
   · rw [if_pos (show i + a < i + p /\ i + f < i + a by omega)] at hx ⊢
     rw [if_pos (show i' + a < i' + p /\ i' + f < i' + a by omega)]
     simp only at hx ⊢
     rw [show p = x by omega]
   rw [if_neg (show ¬ (i + a < i + p /\ i + f < i + a) by omega)] at hx ⊢
   rw [if_neg (show ¬ (i' + a < i' + p /\ i' + f < i' + a) by omega)]
   by_cases h3 : a + 1 < b
   · rw [if_pos (show i + a + 1 < i + b by omega)] at hx ⊢
     rw [if_pos (show i' + a + 1 < i' + b by omega)]
     simp only at hx ⊢
     rw [show b = x by omega]
   rw [if_neg (show ¬ i + a + 1 < i + b by omega)] at hx ⊢
   rw [if_neg (show ¬ i' + a + 1 < i' + b by omega)]
   by_cases h4 : f < a
   · rw [if_pos (show i + f < i + a by omega)] at hx ⊢
     rw [if_pos (show i' + f < i' + a by omega)]
     simp only at hx ⊢
     rw [show a = x by omega]
   · rw [if_neg (show ¬ i + f < i + a by omega)] at hx ⊢
     rw [if_neg (show ¬ i' + f < i' + a by omega)]
     simp only at hx ⊢
     rw [show f = x by omega]
end Go.Proofs.YtdhmpakhdhdebaaGreatDoor
namespace Go.Proofs.YtdhmpakhdhdebaaGreatDoor
open Go.RowKit
set_option maxRecDepth 100000
theorem iri_rest {l l' : List UInt8} {i i' M m : Nat} {t : TokL} (h : Rest l i l' i' M) (hi : i < l.length) (hm : m <= M) (ht : iriG l i = .inl t) (hf : t.fin = ((i + m : Nat) : Int)) : iriG l' i' = .inl (moved t i' (i' + m)) := iri_like (h.L.front hm) hi ht hf
theorem quote_rest {l l' : List UInt8} {i i' M m : Nat} {t : TokL} (h : Rest l i l' i' M) (hi : i < l.length) (hm : m <= M) (hq : l.getD i 0 = 34 \/ l.getD i 0 = 39) (ht : quoteG l i = .inl t) (hf : t.fin = ((i + m : Nat) : Int)) : quoteG l' i' = .inl (moved t i' (i' + m)) := by
 have hw := h.whole
 have hst : (l'.getD (i' + M) 0 == l.getD i 0) = false := stop_get h.S (p := fun c => c == l.getD i 0) (by rcases hq with h | h <;> rw [h] <;> decide) (by rcases hq with h | h <;> rw [h] <;> decide)
 have h0 := h.L.at (k := 0) (by omega)
 rw [Nat.add_zero, Nat.add_zero] at h0
 have hthree : threeB l' (l.getD i 0) i' = threeB l (l.getD i 0) i := by
   by_cases h3 : 2 < M
   · have := three_like h.L (k := 0) (l.getD i 0) (by omega)
     rwa [Nat.add_zero, Nat.add_zero] at this
   · have e1 : threeB l (l.getD i 0) i = false := by
       unfold threeB
       rw [decide_eq_false (show ¬ i + 2 < l.length by omega)]; rfl
     have e2 : threeB l' (l.getD i 0) i' = false := by
       unfold threeB
       rcases (show M = 1 \/ M = 2 by omega) with rfl | rfl
       · rw [hst]; simp
       · rw [hst]; simp
     rw [e1, e2]
 have hL := h.L.front hm
 have hlen : i + markN (threeB l (l.getD i 0) i) <= l.length := by
   cases hb : threeB l (l.getD i 0) i with
   | false => show i + 1 <= l.length; omega
   | true =>
     unfold threeB at hb
     simp only [Bool.and_eq_true, decide_eq_true_eq] at hb
     show i + 3 <= l.length
     omega
 unfold quoteG at ht ⊢
 rw [h0, hthree]
 generalize threeB l (l.getD i 0) i = b at ht hlen ⊢
 have hm0 : 0 < markN b := by cases b <;> decide
 obtain ⟨x, hx⟩ : ∃ x, scanQ l (l.getD i 0) b (i + markN b) = x := ⟨_, rfl⟩
 have hbd := scanQ_bound l (l.getD i 0) b l.length (i + markN b) (by omega)
 rw [hx] at ht hbd
 rcases x with e | p
 · simp only at ht
   have he := hbd.1 e rfl
   obtain ⟨y, hy⟩ : ∃ y, unescF 1 (cutF l (i + markN b) e) 0 = y := ⟨_, rfl⟩
   rw [hy] at ht
   rcases y with u | ⟨p, n⟩
   · simp only [Sum.inl.injEq] at ht
     subst ht
     simp only at hf
     obtain ⟨e, rfl⟩ : ∃ k, e = i + k := ⟨e - i, by omega⟩
     have hme : e + markN b = m := by omega
     rw [scanQ_like hL (l.getD i 0) m (markN b) e (by omega) hx (by omega) (by omega)]
     simp only
     rw [hL.cut (by omega) (by omega), hy, <- hme, Nat.add_assoc]
     rfl
   · cases ht
 · cases ht
theorem cut_rest {l l' : List UInt8} {i i' M : Nat} (h : Rest l i l' i' M) {x : Nat} (hx : x <= M) : cutF l' i' (i' + x) = cutF l i (i + x) := by
 have := h.L.cut (a := 0) (b := x) hx (by omega)
 simpa using this
theorem at_rest {l l' : List UInt8} {i i' M m : Nat} {t : TokL} (h : Rest l i l' i' M) (hM : 0 < M) (ht : atG l i = .inl t) (hf : t.fin = ((i + m : Nat) : Int)) : atG l' i' = .inl (moved t i' (i' + m)) := by
 have hw := h.whole
 have hb := tagE_bound l l.length (i + 1) (by omega) (by omega)
 have hfin : tagE l (i + 1) = i + m := by
   unfold atG at ht
   split at ht
   · cases ht; simp only at hf; omega
   · split at ht
     · cases ht
     · cases ht; simp only at hf; omega
 have h1 : tagE l' (i' + 1) = i' + m := tag_all h M 1 m (by omega) (by omega) hfin
 have hcut : cutF l' (i' + 1) (i' + m) = cutF l (i + 1) (i + m) := h.L.cut (by omega) (by omega)
 unfold atG at ht ⊢
 rw [hfin] at ht
 rw [h1, hcut]
 split at ht
 · next h => rw [if_pos h]; cases ht; rfl
 · next h =>
   rw [if_neg h]
   split at ht
   · cases ht
   · cases ht; rfl
theorem numP_ge (l : List UInt8) (i : Nat) : i <= (numP l i).1 := by
 have hf := numD_gt l i
 have ha := digE_ge l (numD l i)
 unfold numP
 simp only
 generalize numD l i = f at hf ha ⊢
 generalize digE l f = a at ha ⊢
 have hb := digE_ge l (a + 1)
 generalize digE l (a + 1) = b at hb ⊢
 generalize (decide (a < l.length) && l.getD a 0 == 46) = dot
 have hm : i <= (if dot = true /\ a + 1 < b then b else if dot = true /\ f < a then a + 1 else a) := by
   split
   · omega
   · split <;> omega
 generalize (if dot = true /\ a + 1 < b then b else if dot = true /\ f < a then a + 1 else a) = m at hm ⊢
 have h1 := (powE_bound l m).1
 have h2 := (powE_bound l a).1
 split
 · show i <= powE l m; omega
 · split
   · show i <= powE l a; omega
   · split
     · show i <= b; omega
     · split
       · show i <= a; omega
       · show i <= f; omega
theorem numTok_rest {l l' : List UInt8} {i i' M m : Nat} {t : TokL} (h : Rest l i l' i' M) (hM : 0 < M) (ht : numTok l i = .inl t) (hf : t.fin = ((i + m : Nat) : Int)) : numTok l' i' = .inl (moved t i' (i' + m)) := by
 have hw := h.whole
 have hg := numD_gt l i
 obtain ⟨x, hx⟩ : ∃ x, (numP l i).1 = i + x := ⟨(numP l i).1 - i, by have := numP_ge l i; omega⟩
 obtain ⟨hp, f, hnf, hnf'⟩ := num_all h hM hx
 have hxM : x <= M := by have := numP_le (l := l) (i := i) (by omega); omega
 have h0 := h.L.at (k := 0) hM
 rw [Nat.add_zero, Nat.add_zero] at h0
 unfold numTok at ht ⊢
 rw [hp, hnf', h0]
 rw [hnf, hx] at ht
 simp only
 by_cases hlt : f < x
 · rw [if_pos (by omega)] at ht ⊢
   cases ht
   simp only at hf
   have hxm : x = m := by omega
   rw [cut_rest h hxM, hxm]
   rfl
 · rw [if_neg (by omega)] at ht ⊢
   split at ht
   · next h46 => rw [if_pos h46]; cases ht; simp only at hf; rw [show m = 1 by omega]; rfl
   · cases ht
theorem name_rest {l l' : List UInt8} {i i' M m : Nat} {t : TokL} (h : Rest l i l' i' M) (hu : Ut l i) (_hM : 0 < M) (ht : nameG l i = .inl t) (hf : t.fin = ((i + m : Nat) : Int)) : nameG l' i' = .inl (moved t i' (i' + m)) := by
 have hw := h.whole
 have hb := h.L.b
 have hwd : ∀ d, ∃ x, x <= M /\ wordE l d i = i + x /\ wordE l' d i' = i' + x := fun d => by
   have hbd := wordE_bound l d l.length i (by omega) (by omega)
   obtain ⟨x, hx⟩ : ∃ x, wordE l d i = i + x := ⟨wordE l d i - i, by omega⟩
   exact ⟨x, by omega, hx, word_all (k := 0) h d M x (by omega) (by omega) hu hx⟩
 obtain ⟨w, hwM, hw1, hw2⟩ := hwd true
 have hpe : ∀ (c : Prop), (l'.getD (i' + w) 0 = 58 /\ i' + w < l'.length /\ c) ↔ (l.getD (i + w) 0 = 58 /\ i + w < l.length /\ c) := fun c => by
   by_cases hlt : w < M
   · rw [h.L.at hlt]
     exact ⟨fun ⟨a, _, c⟩ => ⟨a, by omega, c⟩, fun ⟨a, _, c⟩ => ⟨a, by omega, c⟩⟩
   · have hwm : w = M := by omega
     subst hwm
     have h58 := stop_get h.S (p := fun c => c == 58) (by decide) (by decide)
     refine ⟨fun ⟨a, _, _⟩ => ?_, fun ⟨_, a, _⟩ => ?_⟩
     · rw [a] at h58; exact absurd h58 (by decide)
     · omega
 have hpref : prefE l' i' = (prefE l i).map (fun _ => i' + w) := by
   unfold prefE
   rw [hw1, hw2, cut_rest h hwM]
   by_cases hc : i + w < l.length /\ l.getD (i + w) 0 = 58 /\ prefOk (cutF l i (i + w)) = true
   · have := (hpe (prefOk (cutF l i (i + w)) = true)).2 ⟨hc.2.1, hc.1, hc.2.2⟩
     rw [if_pos hc, if_pos ⟨this.2.1, this.1, this.2.2⟩]; rfl
   · rw [if_neg hc, if_neg (fun x => hc (by
       have := (hpe (prefOk (cutF l i (i + w)) = true)).1 ⟨x.2.1, x.1, x.2.2⟩
       exact ⟨this.2.1, this.1, this.2.2⟩))]; rfl
 unfold nameG at ht ⊢
 obtain ⟨x, hx⟩ : ∃ x, prefE l i = x := ⟨_, rfl⟩
 rw [hx] at ht hpref
 rw [hpref]
 cases x with
 | some e =>
   have he := prefE_some hx
   have hew : e = i + w := he.1.trans hw1
   subst hew
   simp only [Option.map_some] at ht ⊢
   simp only [Sum.inl.injEq] at ht
   have huw : Ut l (i + w) := by rw [<- hw1]; exact ut_word l true l.length i (by omega) hu
   have hu1 := ut_low huw (by omega) (by rw [he.2.2.1]; decide)
   have hfin : (localG l (i + w + 1)).1 = i + m := by subst ht; simp only at hf; omega
   have h3 : localG l' (i' + w + 1) = (i' + m, (localG l (i + w + 1)).2) := by
     unfold localG
     exact loc_all (a := w + 1) h M (w + 1) (w + 1) m [] [] _ (by omega) (by omega) hu1 (by
       show locG l (i + w + 1) (i + w + 1) [] (i + w + 1) [] = _
       rw [<- hfin]; rfl)
   rw [h3, cut_rest h hwM, <- ht]
   rfl
 | none =>
   simp only [Option.map_none] at ht ⊢
   obtain ⟨x, hxM, hx1, hx2⟩ := hwd false
   unfold wordG at ht ⊢
   rw [hx2, cut_rest h hxM]
   rw [hx1] at ht
   split at ht
   · next h => rw [if_pos h]; cases ht; simp only at hf; rw [show x = m by omega]; rfl
   · next h =>
     rw [if_neg h]
     split at ht
     · next h => rw [if_pos h]; cases ht; simp only at hf; rw [show x = m by omega]; rfl
     · cases ht
theorem label_rest {l l' : List UInt8} {i i' M m : Nat} {t : TokL} (h : Rest l i l' i' M) (hu : Ut l i) (hc : l.getD i 0 = 95) (_hM : 0 < M) (ht : labelG l i = .inl t) (hf : t.fin = ((i + m : Nat) : Int)) : labelG l' i' = .inl (moved t i' (i' + m)) := by
 have hw := h.whole
 have hb := h.L.b
 unfold labelG at ht ⊢
 split at ht
 · cases ht
 · next hn =>
   simp only [not_or, Classical.not_not] at hn
   have hu2 : Ut l (i + 2) := ut_low (ut_low hu (by omega) (by rw [hc]; decide)) (by omega) (by rw [hn.2]; decide)
   split at ht
   · cases ht
   · next h0 =>
     cases ht
     simp only at hf
     by_cases hM2 : M = 2
     · exact absurd (runF_no (nextAt_out (.inr (by omega))) (.inl rfl)) h0
     obtain ⟨v, n, hq, hn0, hfit, hq'⟩ := h.next (k := 2) (by omega) hu2
     by_cases hs : n = 0 \/ labelB v = false
     · exact absurd (runF_no hq hs) h0
     have hrun := runF_go hq hs
     have htg := tailF_ge l l.length (i + 2 + n) (i + 2 + n) (by omega) (Nat.le_refl _)
     have htail : tailF l (i + 2 + n) (i + 2 + n) = i + m := by omega
     have hu3 : Ut l (i + (2 + n)) := by rw [<- Nat.add_assoc]; exact ut_step hu2 hq hn0
     have htail' : tailF l' (i' + 2 + n) (i' + 2 + n) = i' + m := by
       rw [Nat.add_assoc] at htail ⊢
       exact tail_all h M (2 + n) (2 + n) m (by omega) hfit hu3 htail
     have hmM : m <= M := by have := tailF_le l l.length (i + 2 + n) (i + 2 + n) (by omega) (by omega); omega
     have hrun' : runF labelB l' ((i' + 2 : Nat) : Int) = i' + m - (i' + 2) := by rw [runF_go hq' hs, htail']
     have hr : runF labelB l ((i + 2 : Nat) : Int) = m - 2 := by omega
     have h1 := h.L.at (k := 1) (by omega)
     rw [if_neg (by rw [h1]; simp only [not_or, Classical.not_not]; exact ⟨by omega, hn.2⟩), hrun', if_neg (by omega), hr, show i' + 2 + (i' + m - (i' + 2)) = i' + m by omega, show i + 2 + (m - 2) = i + m by omega, h.L.cut (by omega) (by omega)]
     rfl
theorem tok_rest {l l' : List UInt8} {i i' M m : Nat} {t : TokL} (h : Rest l i l' i' M) (hu : Ut l i) (hi : i < l.length) (ht : tokG l i = .inl t) (hf : t.fin = ((i + m : Nat) : Int)) : tokG l' i' = .inl (moved t i' (i' + m)) := by
 have hat := tok_at hi
 rw [ht] at hat
 obtain ⟨_, ⟨e, he, h1, h2⟩, _⟩ := hat
 have hw := h.whole
 have hb := h.L.b
 have hM : 0 < M := by omega
 have hm : m <= M := by omega
 have h0 := h.L.at (k := 0) hM
 rw [Nat.add_zero, Nat.add_zero] at h0
 rw [<- tok_eq hi] at ht
 rw [<- tok_eq (by omega)]
 unfold tokP at ht ⊢
 rw [h0]
 by_cases c1 : l.getD i 0 = 60
 · rw [if_pos c1] at ht ⊢; exact iri_rest h hi hm ht hf
 rw [if_neg c1] at ht ⊢
 by_cases c2 : l.getD i 0 = 95
 · rw [if_pos c2] at ht ⊢; exact label_rest h hu c2 hM ht hf
 rw [if_neg c2] at ht ⊢
 by_cases c3 : l.getD i 0 = 34 \/ l.getD i 0 = 39
 · rw [if_pos c3] at ht ⊢; exact quote_rest h hi hm c3 ht hf
 rw [if_neg c3] at ht ⊢
 by_cases c4 : l.getD i 0 = 64
 · rw [if_pos c4] at ht ⊢; exact at_rest h hM ht hf
 rw [if_neg c4] at ht ⊢
 by_cases c5 : l.getD i 0 = 43 \/ l.getD i 0 = 45 \/ l.getD i 0 = 46 \/ digC (l.getD i 0) = true
 · rw [if_pos c5] at ht ⊢; exact numTok_rest h hM ht hf
 rw [if_neg c5] at ht ⊢
 by_cases c6 : signs8.contains (l.getD i 0) = true
 · rw [if_pos c6] at ht ⊢
   cases ht
   simp only at hf
   rw [show m = 1 by omega]
   rfl
 rw [if_neg c6] at ht ⊢
 by_cases c7 : l.getD i 0 = 94 /\ i + 1 < l.length /\ l.getD (i + 1) 0 = 94
 · rw [if_pos c7] at ht
   cases ht
   simp only at hf
   rw [if_pos ⟨c7.1, by omega, (h.L.at (k := 1) (by omega)).trans c7.2.2⟩, show m = 2 by omega]
   rfl
 · rw [if_neg c7] at ht
   rw [if_neg]
   · exact name_rest h hu hM ht hf
   rintro ⟨g1, g2, g3⟩
   by_cases hm1 : M = 1
   · subst hm1
     have := stop_get h.S (p := fun c => c == 94) (by decide) (by decide)
     rw [g3] at this
     exact absurd this (by decide)
   · exact c7 ⟨g1, by omega, by rw [<- h.L.at (k := 1) (by omega)]; exact g3⟩
theorem get_more {l : List UInt8} {x : List UInt8} {i : Nat} (h : i < l.length) : (l ++ x).getD i 0 = l.getD i 0 := by simp [List.getD_eq_getElem?_getD, List.getElem?_append_left h]
theorem get_last (l : List UInt8) : (l ++ [32]).getD l.length 0 = 32 := by simp [List.getD_eq_getElem?_getD]
theorem len_more (l : List UInt8) : (l ++ [(32 : UInt8)]).length = l.length + 1 := by simp
theorem eol_ends (l : List UInt8) : ∀ (c i : Nat), l.length - i <= c -> i <= l.length -> eolF (l ++ [32]) i = if eolF l i < l.length then eolF l i else l.length + 1
 | c, i, hc, hi => by
   have hlen := len_more l
   by_cases hl : i = l.length
   · subst hl
     rw [eolF_end (Nat.le_refl l.length), if_neg (by omega), eolF_go (by omega) (by rw [get_last]; decide), eolF_end (by omega)]
   · have hg := get_more (l := l) (x := [32]) (i := i) (by omega)
     cases hb : eolC (l.getD i 0) with
     | true => rw [eolF_hit (by omega) (by rw [hg]; exact hb), eolF_hit (by omega) hb, if_pos (by omega)]
     | false =>
       rw [eolF_go (by omega) (by rw [hg]; exact hb), eolF_go (by omega) hb]
       match c, hc with
       | 0, hc => omega
       | c + 1, hc => exact eol_ends l c (i + 1) (by omega) (by omega)
theorem gap_ends (l : List UInt8) : ∀ (c i : Nat), l.length - i <= c -> i <= l.length -> gapF (l ++ [32]) i = if gapF l i < l.length then gapF l i else l.length + 1
 | c, i, hc, hi => by
   have hlen := len_more l
   by_cases hl : i = l.length
   · subst hl
     rw [gapF_end (Nat.le_refl l.length), if_neg (by omega), gapF_blank (by omega) (by rw [get_last]; decide), gapF_end (by omega)]
   · have hg := get_more (l := l) (x := [32]) (i := i) (by omega)
     match c, hc with
     | 0, hc => omega
     | c + 1, hc =>
       cases hb : blankC (l.getD i 0) with
       | true =>
         rw [gapF_blank (by omega) (by rw [hg]; exact hb), gapF_blank (by omega) hb]
         exact gap_ends l c (i + 1) (by omega) (by omega)
       | false =>
         by_cases h3 : l.getD i 0 = 35
         · have hbd := eolF_bound l l.length (i + 1) (by omega) (by omega)
           rw [gapF_hash (by omega) (by rw [hg]; exact h3), gapF_hash (by omega) h3, eol_ends l l.length (i + 1) (by omega) (by omega)]
           by_cases he : eolF l (i + 1) < l.length
           · rw [if_pos he]; exact gap_ends l c _ (by omega) hbd.2
           · rw [if_neg he, gapF_end (by omega), gapF_end (i := eolF l (i + 1)) (by omega), if_neg (by omega)]
         · rw [gapF_stop (by omega) (by rw [hg]; exact hb) (by rw [hg]; exact h3), gapF_stop (by omega) hb h3, if_pos (by omega)]
theorem rest_ends {l : List UInt8} {i : Nat} (hi : i <= l.length) : Rest l i (l ++ [32]) i (l.length - i) := by
 have hlen := len_more l
 have hi2 : i + (l.length - i) = l.length := by omega
 refine ⟨⟨by omega, by omega, ?_⟩, ?_, hi2, ?_⟩
 · rw [List.drop_append_of_le_length hi, List.take_append_of_le_length (by simp)]
 · rw [hi2]; exact .inr (by rw [get_last]; decide)
 · rw [hi2, get_last]; decide
theorem moved_self {t : TokL} {a e : Nat} (h1 : t.at_ = (a : Nat)) (h2 : t.fin = (e : Nat)) : moved t a e = t := by
 cases t
 simp only at h1 h2
 subst h1 h2
 rfl
theorem ends_step {l : List UInt8} {i : Nat} {t : TokL} (hi : i <= l.length) (hu : Ut l i) (h : stepG l false i = .inl t) : ∃ t', stepG (l ++ [32]) false i = .inl t' /\ (t.kind ≠ 0 -> t' = t) /\ (t.kind = 0 -> t'.kind = 0) := by
 have hlen := len_more l
 have hs := ((step_at (less := false) hi).1 t h).1
 have hg := gap_ends l l.length i (by omega) hi
 rcases hs with ⟨rfl, he⟩ | ⟨hgl, htk, ⟨ha, ⟨e, he, h1, h2⟩, hk, _⟩, htx, hlc⟩
 · rw [if_neg (by omega)] at hg
   refine ⟨⟨0, [], [], [], (l.length + 1 : Nat), (l.length + 1 : Nat)⟩, ?_, fun h => absurd rfl h, fun _ => rfl⟩
   unfold stepG nextG
   rw [hg, if_pos hlen.symm]
   simp
 · rw [if_pos hgl] at hg
   have hge := (gap_le hi).1
   have hua := ut_gap l l.length i (by omega) hi hu
   have hr := tok_rest (rest_ends (l := l) (i := gapF l i) (by omega)) hua hgl htk (m := e - gapF l i) (by rw [he]; congr 1; omega)
   rw [moved_self ha (by rw [he]; congr 1; omega)] at hr
   refine ⟨t, ?_, fun _ => rfl, id⟩
   unfold stepG nextG
   rw [hg, if_neg (by omega), hr]
   simp only
   rw [if_neg (by omega)]
   simp
theorem ends_toks (l : List UInt8) : ∀ (c i : Nat), l.length - i <= c -> i <= l.length -> Ut l i -> (toksF l false i).2 = none -> toksF (l ++ [32]) false i = toksF l false i
 | c, i, hc, hi, hu, hn => by
   have hlen := len_more l
   obtain ⟨x, hx⟩ : ∃ x, stepG l false i = x := ⟨_, rfl⟩
   rcases x with t | f
   · obtain ⟨t', ht', h1, h2⟩ := ends_step hi hu hx
     by_cases hk : t.kind = 0
     · rw [toksF_end hx hk, toksF_end ht' (h2 hk)]
     · have := h1 hk
       subst this
       obtain ⟨e, he, _⟩ := next_tok hi hu hx hk
       obtain ⟨g1, g2, g3, g4⟩ := toksF_go hi hx hk
       obtain ⟨k1, _, _, _⟩ := toksF_go (l := l ++ [32]) (by omega) ht' hk
       rw [g1] at hn ⊢
       rw [k1]
       have hue : Ut l t'.fin.toNat := by have := he.ue; rwa [show e = t'.fin.toNat by have := he.fin; omega] at this
       match c, hc with
       | 0, hc => omega
       | c + 1, hc => rw [ends_toks l c _ (by omega) g3 hue hn]
   · rw [toksF_bad hx] at hn; cases hn
theorem ut_app {a b : List UInt8} (hb : utfF b 0 = -1) : ∀ (c j : Nat), a.length - j <= c -> j <= a.length -> Ut a j -> Ut (a ++ b) j
 | c, j, hc, hj, h => by
   by_cases hl : j = a.length
   · subst hl
     have := utf_drop (a ++ b) a.length (a ++ b).length 0 (by simp)
     rw [List.drop_left, Nat.add_zero] at this
     exact this.2 hb
   · obtain ⟨v, n, hq, hn⟩ := ut_next h (by omega)
     have hbd := nextAt_bound hq hn
     have hq' : nextAt (a ++ b) (j : Int) = (v, n) := by
       rw [nextAt_nat] at hq ⊢
       rw [List.drop_append_of_le_length hj]
       exact nextP_more b hq hn
     show utfF (a ++ b) j = -1
     rw [utfF_go (by simp; omega) hq' hn]
     match c, hc with
     | 0, hc => omega
     | c + 1, hc => exact ut_app hb c (j + n) (by omega) (by omega) (ut_step h hq hn)
theorem ends_law {l : List UInt8} (hu : utfF l 0 = -1) (hn : (toksF l false 0).2 = none) : utfF (l ++ [32]) 0 = -1 /\ toksF (l ++ [32]) false 0 = toksF l false 0 :=
 ⟨ut_app (by decide +kernel) l.length 0 (by omega) (by omega) hu, ends_toks l l.length 0 (by omega) (by omega) hu hn⟩
end Go.Proofs.YtdhmpakhdhdebaaGreatDoor
