/-
  What is written with escapes is read back as it was: a plain law. No program in sight. By an AI agent.
-/
import Derived.Test.YtmnigckpejcaeaaGreatDoorZEsc0
import Derived.Test.YtmnigckpejcaeaaGreatDoorZRdW0
import Derived.Test.YtmnigckpejcaeaaGreatDoorZTermC
import Derived.Test.YtmnigckpejcaeaaGreatDoorZStill
namespace Go.Proofs.YtmnigckpejcaeaaGreatDoor
open Go.RowKit
set_option maxRecDepth 100000
theorem hexV_hexU : ∀ d : Fin 16, hexV (hexU d.val) = some d.val := by decide
theorem numF_digs {r : Nat} (h : r < 65536) (hs : scal (r : Int) = true) (rest : List UInt8) : numF (digs4 r ++ rest) 4 = some (r : Int) := by
 have e : numV 0 (digs4 r ++ rest) 4 = some r := by
   have h1 := hexV_hexU ⟨r / 4096 % 16, Nat.mod_lt _ (by decide)⟩
   have h2 := hexV_hexU ⟨r / 256 % 16, Nat.mod_lt _ (by decide)⟩
   have h3 := hexV_hexU ⟨r / 16 % 16, Nat.mod_lt _ (by decide)⟩
   have h4 := hexV_hexU ⟨r % 16, Nat.mod_lt _ (by decide)⟩
   simp only at h1 h2 h3 h4
   simp only [digs4, List.cons_append, List.nil_append, numV, h1, h2, h3, h4]
   congr 1
   omega
 unfold numF
 rw [e]
 simp only
 rw [if_pos hs]
def atR (way : Int) (r : List UInt8) : (Int × Nat) × Int := if r.headD 0 = 92 then (escN way r, 41) else (nextP r, 40)
theorem atF_drop (way : Int) (l : List UInt8) (j : Nat) : atF way l j = atR way (l.drop j) := by
 unfold atF atR
 have e : l.getD j 0 = (l.drop j).headD 0 := by
   rw [List.getD_eq_getElem?_getD, List.headD_eq_head?_getD, List.head?_drop]
 rw [e, nextAt_nat]
theorem scal_cases {v : Int} (h : scal v = true) : 0 <= v /\ v <= 1114111 /\ (v < 55296 \/ 57343 < v) := by
 unfold scal at h
 simp at h
 exact ⟨h.1.1, h.1.2, h.2⟩
theorem byU_1 {v : Int} (h0 : 0 <= v) (h : v < 128) : byU v = [UInt8.ofNat v.toNat] := by
 unfold byU
 rw [bytesOf1 h]
 simp only [List.map_cons, List.map_nil]
 rw [Int.emod_eq_of_lt h0 (by omega)]
theorem ofNat_toNat {n : Nat} (h : n < 256) : (UInt8.ofNat n).toNat = n := by simp; omega
theorem next_byU {v : Int} (hs : scal v = true) (rest : List UInt8) : nextP (byU v ++ rest) = (v, (byU v).length) := by
 obtain ⟨h0, hm, hr⟩ := scal_cases hs
 by_cases c1 : v < 128
 · rw [byU_1 h0 c1, List.cons_append, List.nil_append, nextP_1 (by rw [ofNat_toNat (by omega)]; omega), ofNat_toNat (by omega)]
   simp [Int.toNat_of_nonneg h0]
 by_cases c2 : v < 2048
 · have e : byU v = [UInt8.ofNat (192 + v / 64).toNat, UInt8.ofNat (128 + v % 64).toNat] := by
     unfold byU
     rw [bytesOf2 (by omega) c2]
     simp only [List.map_cons, List.map_nil]
     rw [Int.emod_eq_of_lt (by omega) (by omega), Int.emod_eq_of_lt (by omega) (by omega)]
   rw [e, List.cons_append, List.cons_append, List.nil_append]
   have a1 : (UInt8.ofNat (192 + v / 64).toNat).toNat = (192 + v / 64).toNat := ofNat_toNat (by omega)
   have a2 : (UInt8.ofNat (128 + v % 64).toNat).toNat = (128 + v % 64).toNat := ofNat_toNat (by omega)
   have hl : leadN (192 + v / 64).toNat = 2 := by
     unfold leadN
     rw [if_neg (by omega), if_neg (by omega), if_pos (by omega)]
   have hv : leadV (192 + v / 64).toNat = ((192 + v / 64).toNat : Int) % 32 := by
     unfold leadV
     rw [if_neg (by omega), if_neg (by omega), if_pos (by omega)]
   rw [nextP, a1, if_neg (by rw [hl]; simp), hl, hv]
   simp only [Nat.add_one_sub_one, tailV, a2]
   rw [if_pos (by omega)]
   have ev : ((192 + v / 64).toNat : Int) % 32 * 64 + ((128 + v % 64).toNat : Int) % 64 = v := by omega
   rw [ev, finN, if_neg (by rw [hs]; simp [leastOf]; omega)]
   rfl
 by_cases c3 : v < 65536
 · have e : byU v = [UInt8.ofNat (224 + v / 4096).toNat, UInt8.ofNat (128 + v / 64 % 64).toNat, UInt8.ofNat (128 + v % 64).toNat] := by
     unfold byU
     rw [bytesOf3 (by omega) c3]
     simp only [List.map_cons, List.map_nil]
     rw [show (224 + v / 4096) % 256 = 224 + v / 4096 by omega, show (128 + v / 64 % 64) % 256 = 128 + v / 64 % 64 by omega, show (128 + v % 64) % 256 = 128 + v % 64 by omega]
   rw [e, List.cons_append, List.cons_append, List.cons_append, List.nil_append]
   have a1 : (UInt8.ofNat (224 + v / 4096).toNat).toNat = (224 + v / 4096).toNat := ofNat_toNat (by omega)
   have a2 : (UInt8.ofNat (128 + v / 64 % 64).toNat).toNat = (128 + v / 64 % 64).toNat := ofNat_toNat (by omega)
   have a3 : (UInt8.ofNat (128 + v % 64).toNat).toNat = (128 + v % 64).toNat := ofNat_toNat (by omega)
   have hl : leadN (224 + v / 4096).toNat = 3 := by
     unfold leadN
     rw [if_neg (by omega), if_neg (by omega), if_neg (by omega), if_pos (by omega)]
   have hv : leadV (224 + v / 4096).toNat = ((224 + v / 4096).toNat : Int) % 16 := by
     unfold leadV
     rw [if_neg (by omega), if_neg (by omega), if_neg (by omega), if_pos (by omega)]
   rw [nextP, a1, if_neg (by rw [hl]; simp), hl, hv]
   simp only [Nat.reduceSub, tailV, a2, a3]
   rw [if_pos (by omega), if_pos (by omega)]
   have ev : (((224 + v / 4096).toNat : Int) % 16 * 64 + ((128 + v / 64 % 64).toNat : Int) % 64) * 64 + ((128 + v % 64).toNat : Int) % 64 = v := by omega
   rw [ev, finN, if_neg (by rw [hs]; simp [leastOf]; omega)]
   rfl
 · have e : byU v = [UInt8.ofNat (240 + v / 262144).toNat, UInt8.ofNat (128 + v / 4096 % 64).toNat, UInt8.ofNat (128 + v / 64 % 64).toNat, UInt8.ofNat (128 + v % 64).toNat] := by
     unfold byU
     rw [bytesOf4 (by omega)]
     simp only [List.map_cons, List.map_nil]
     rw [show (240 + v / 262144) % 256 = 240 + v / 262144 by omega, show (128 + v / 4096 % 64) % 256 = 128 + v / 4096 % 64 by omega, show (128 + v / 64 % 64) % 256 = 128 + v / 64 % 64 by omega, show (128 + v % 64) % 256 = 128 + v % 64 by omega]
   rw [e, List.cons_append, List.cons_append, List.cons_append, List.cons_append, List.nil_append]
   have a1 : (UInt8.ofNat (240 + v / 262144).toNat).toNat = (240 + v / 262144).toNat := ofNat_toNat (by omega)
   have a2 : (UInt8.ofNat (128 + v / 4096 % 64).toNat).toNat = (128 + v / 4096 % 64).toNat := ofNat_toNat (by omega)
   have a3 : (UInt8.ofNat (128 + v / 64 % 64).toNat).toNat = (128 + v / 64 % 64).toNat := ofNat_toNat (by omega)
   have a4 : (UInt8.ofNat (128 + v % 64).toNat).toNat = (128 + v % 64).toNat := ofNat_toNat (by omega)
   have hl : leadN (240 + v / 262144).toNat = 4 := by
     unfold leadN
     rw [if_neg (by omega), if_neg (by omega), if_neg (by omega), if_neg (by omega), if_pos (by omega)]
   have hv : leadV (240 + v / 262144).toNat = ((240 + v / 262144).toNat : Int) % 8 := by
     unfold leadV
     rw [if_neg (by omega), if_neg (by omega), if_neg (by omega), if_neg (by omega), if_pos (by omega)]
   rw [nextP, a1, if_neg (by rw [hl]; simp), hl, hv]
   simp only [Nat.reduceSub, tailV, a2, a3, a4]
   rw [if_pos (by omega), if_pos (by omega), if_pos (by omega)]
   have ev : ((((240 + v / 262144).toNat : Int) % 8 * 64 + ((128 + v / 4096 % 64).toNat : Int) % 64) * 64 + ((128 + v / 64 % 64).toNat : Int) % 64) * 64 + ((128 + v % 64).toNat : Int) % 64 = v := by omega
   rw [ev, finN, if_neg (by rw [hs]; simp [leastOf]; omega)]
   rfl
theorem byU_head {v : Int} (hs : scal v = true) : ∃ c t, byU v = c :: t /\ (v < 128 -> (c.toNat : Int) = v) /\ (128 <= v -> 128 <= c.toNat) := by
 obtain ⟨h0, hm, hr⟩ := scal_cases hs
 have hn := next_byU hs []
 rw [List.append_nil] at hn
 rcases hb : byU v with _ | ⟨c, t⟩
 · rw [hb, nextP] at hn
   have hl := bytesOf_len v
   have : (byU v).length = (bytesOf v).length := by unfold byU; simp
   rw [hb] at this
   simp at this
   rw [<- this] at hl
   split at hl <;> (try split at hl) <;> (try split at hl) <;> omega
 · refine ⟨c, t, rfl, fun h => ?_, fun h => ?_⟩
   · rw [byU_1 h0 h] at hb
     cases hb
     rw [ofNat_toNat (by omega)]
     omega
   · rw [hb] at hn
     by_cases hc : c.toNat < 128
     · rw [nextP_1 hc] at hn
       have e1 := congrArg Prod.fst hn
       simp only at e1
       omega
     · omega
theorem at_wr {way v : Int} (hs : scal v = true) (rest : List UInt8) : ∃ e, atR way (wrF way v ++ rest) = ((v, (wrF way v).length), e) := by
 obtain ⟨h0, hm, hr⟩ := scal_cases hs
 have pure : v ≠ 92 -> ∃ e, atR way (byU v ++ rest) = ((v, (byU v).length), e) := fun hv => by
   obtain ⟨c, t, hb, h1, h2⟩ := byU_head hs
   refine ⟨40, ?_⟩
   have hn := next_byU hs rest
   unfold atR
   rw [hn]
   rw [if_neg]
   rw [hb, List.cons_append, List.headD_cons]
   intro hc
   subst hc
   by_cases h : v < 128
   · exact hv (h1 h).symm
   · have := h2 (by omega)
     exact absurd this (by decide)
 have esc : v < 65536 -> ∃ e, atR way (92 :: 117 :: digs4 v.toNat ++ rest) = ((v, (92 :: 117 :: digs4 v.toNat).length), e) := fun hv => by
   refine ⟨41, ?_⟩
   unfold atR
   rw [List.cons_append, List.cons_append, List.headD_cons, if_pos rfl, escN, if_pos rfl, numF_digs (by omega) (by rw [Int.toNat_of_nonneg h0]; exact hs), Int.toNat_of_nonneg h0]
   rfl
 unfold wrF
 by_cases hw : way = 1
 · subst hw
   rw [if_pos rfl]
   cases hl : letF v with
   | some c =>
     refine ⟨41, ?_⟩
     simp only
     unfold atR
     rw [List.cons_append, List.cons_append, List.nil_append, List.headD_cons, if_pos rfl]
     unfold letF at hl
     split at hl
     · next h => cases hl; subst h; rfl
     split at hl
     · next h => cases hl; subst h; rfl
     split at hl
     · next h => cases hl; subst h; rfl
     split at hl
     · next h => cases hl; subst h; rfl
     split at hl
     · next h => cases hl; subst h; rfl
     split at hl
     · next h => cases hl; subst h; rfl
     split at hl
     · next h => cases hl; subst h; rfl
     · cases hl
   | none =>
     simp only
     split
     · next h => exact esc (by omega)
     · refine pure fun h => ?_
       subst h
       cases hl
 · rw [if_neg hw]
   split
   · next h =>
     refine esc ?_
     rcases h with h | h
     · omega
     · have : ∀ x ∈ badA, x < 65536 := by decide
       exact this v h
   · next h =>
     refine pure fun h2 => ?_
     subst h2
     exact h (.inr (by decide))
theorem unesc_esc (way : Int) (t : List UInt8) : ∀ (k j i : Nat) (l : List UInt8), t.length - j <= k -> j <= t.length -> utfF t j = -1 -> l.drop i = escF way t j -> unescF way l i = .inl (t.drop j)
 | k, j, i, l, hk, hj, hu, hd => by
   by_cases h : t.length <= j
   · rw [escF_end h] at hd
     have hl : l.length <= i := by
       have := congrArg List.length hd
       simp at this
       omega
     rw [unescF_end hl, List.drop_of_length_le h]
   · obtain ⟨v, n, hq⟩ : ∃ v n, nextAt t (j : Int) = (v, n) := ⟨_, _, rfl⟩
     by_cases hn : n = 0
     · subst hn
       rw [utfF_bad (by omega) hq] at hu
       omega
     · rw [utfF_go (by omega) hq hn] at hu
       rw [escF_go (by omega) hq hn] at hd
       have hb := nextAt_bytes hq hn
       have hbd := (nextAt_bound hq hn).2.1
       have hbd2 : j + n <= t.length := by omega
       obtain ⟨e, he⟩ := at_wr (way := way) hb.2 (escF way t (j + n))
       rw [<- hd, <- atF_drop] at he
       have hw : (wrF way v).length ≠ 0 := by
         unfold wrF
         split
         · split
           · simp
           · split
             · simp
             · obtain ⟨c, r, hc, _⟩ := byU_head hb.2
               rw [hc]; simp
         · split
           · simp
           · obtain ⟨c, r, hc, _⟩ := byU_head hb.2
             rw [hc]; simp
       have hil : i < l.length := by
         by_cases hc : l.length <= i
         · rw [List.drop_of_length_le hc] at hd
           have := congrArg List.length hd
           simp at this
           omega
         · omega
       rw [unescF_go hil he hw]
       have hd2 : l.drop (i + (wrF way v).length) = escF way t (j + n) := by
         rw [<- List.drop_drop, hd, List.drop_left]
       match k, hk with
       | 0, hk => omega
       | k + 1, hk =>
         rw [unesc_esc way t k (j + n) _ l (by omega) hbd2 hu hd2]
         simp only [putF]
         rw [hb.1, <- List.drop_drop, List.take_append_drop]
theorem unesc_of_esc (way : Int) {t : List UInt8} (h : utfF t 0 = -1) : unescF way (escF way t 0) 0 = .inl t := by
 have := unesc_esc way t t.length 0 0 (escF way t 0) (by omega) (Nat.zero_le _) h rfl
 simpa using this
end Go.Proofs.YtmnigckpejcaeaaGreatDoor
namespace Go.Proofs.YtmnigckpejcaeaaGreatDoor
open Go.RowKit
set_option maxRecDepth 100000
def okP (p : List UInt8) : Prop := ∀ c ∈ p, (alphaC c || digC c) = true
def okAll (ps : List (List UInt8)) : Prop := ∀ p ∈ ps, okP p
theorem okAll_cons {p : List UInt8} {r : List (List UInt8)} (h : okP p) (hr : okAll r) : okAll (p :: r) := fun q hq => by
 rcases List.mem_cons.1 hq with rfl | hq
 · exact h
 · exact hr q hq
theorem madeB_ok {p : List UInt8} {lo hi : Nat} {pu : Bool} (h : madeB p lo hi pu = true) : okP p := fun c hc => by
 unfold madeB at h
 rw [Bool.and_eq_true] at h
 have := List.all_eq_true.1 h.1 c hc
 revert this
 cases alphaC c <;> cases digC c <;> cases pu <;> simp
theorem regionB_ok {p : List UInt8} (h : regionB p = true) : okP p := by
 unfold regionB at h
 rw [Bool.or_eq_true] at h
 rcases h with h | h
 · exact madeB_ok h
 · rw [Bool.and_eq_true] at h
   intro c hc
   rw [List.all_eq_true.1 h.2 c hc]
   simp
theorem variantB_ok {p : List UInt8} (h : variantB p = true) : okP p := by
 unfold variantB at h
 rw [Bool.or_eq_true, Bool.and_eq_true] at h
 rcases h with h | h
 · exact madeB_ok h
 · exact madeB_ok h.1
theorem privB_ok {p : List UInt8} (h : privB p = true) : okP p := by
 unfold privB at h
 rw [Bool.or_eq_true, beq_iff_eq, beq_iff_eq] at h
 rcases h with rfl | rfl <;> (intro c hc; obtain rfl := List.mem_singleton.1 hc; decide)
theorem ext3_ok : ∀ (n : Nat) (ps : List (List UInt8)), okAll (ext3 n ps).2 -> okAll ps
 | 0, ps, h => h
 | _ + 1, [], h => h
 | n + 1, p :: r, h => by
   unfold ext3 at h
   split at h
   · next hm => exact okAll_cons (madeB_ok hm) (ext3_ok n r h)
   · exact h
theorem langF_ok {ps r : List (List UInt8)} {l e : List UInt8} (h : langF ps = some (l, e, r)) (hr : okAll r) : okAll ps := by
 match ps, h with
 | p :: q, h =>
   rw [langF] at h
   split at h
   · next hm =>
     split at h
     · cases h; exact okAll_cons (madeB_ok hm) hr
     · cases h; exact okAll_cons (madeB_ok hm) (ext3_ok 3 q hr)
   · cases h
theorem oneF_ok {f : List UInt8 -> Bool} (hf : ∀ p, f p = true -> okP p) {ps : List (List UInt8)} (h : okAll (oneF f ps).2) : okAll ps := by
 match ps, h with
 | [], h => exact h
 | p :: r, h =>
   rw [oneF] at h
   split at h
   · next hp => exact okAll_cons (hf p hp) h
   · exact h
theorem tagTail_ok (lo : Nat) : ∀ (ps : List (List UInt8)), okAll (tagTail lo ps).2 -> okAll ps
 | [], h => h
 | p :: r, h => by
   unfold tagTail at h
   split at h
   · next hm => exact okAll_cons (madeB_ok hm) (tagTail_ok lo r h)
   · exact h
theorem varsF_ok : ∀ (ps seen : List (List UInt8)) (v : List (List UInt8) × List (List UInt8)), varsF seen ps = some v -> okAll v.2 -> okAll ps
 | [], _, v, _, _ => fun p hp => by cases hp
 | p :: r, seen, v, h, hv => by
   unfold varsF at h
   split at h
   · next hp =>
     split at h
     · cases h
     · obtain ⟨x, hx, rfl⟩ := Option.map_eq_some_iff.1 h
       exact okAll_cons (variantB_ok hp) (varsF_ok r _ x hx hv)
   · cases h; exact hv
theorem extsF_ok : ∀ (n : Nat) (ps seen : List (List UInt8)) (v : List (List UInt8) × List (List UInt8)), ps.length <= n -> extsF seen ps = some v -> okAll v.2 -> okAll ps
 | _, [], _, v, _, _, _ => fun p hp => by cases hp
 | 0, p :: r, _, v, hl, _, _ => by simp at hl
 | n + 1, p :: r, seen, v, hl, h, hv => by
   rw [extsF] at h
   split at h
   · next hp =>
     split at h
     · cases h
     · obtain ⟨x, hx, rfl⟩ := Option.map_eq_some_iff.1 h
       rw [Bool.and_eq_true] at hp
       have := tagTail_len 2 r
       exact okAll_cons (madeB_ok hp.1) (tagTail_ok 2 r (extsF_ok n _ _ x (by simp at hl; omega) hx hv))
   · cases h; exact hv
theorem restF_ok {lang ext : List UInt8} {ps r : List (List UInt8)} {t : TagL} (h : restF lang ext ps = some (t, r)) (hr : okAll r) : okAll ps := by
 unfold restF at h
 simp only at h
 split at h
 · cases h
 · next v hv =>
   split at h
   · cases h
   · next e he =>
     cases h
     exact oneF_ok (fun p hp => madeB_ok hp) (oneF_ok (fun p hp => regionB_ok hp) (varsF_ok _ _ v hv (extsF_ok _ _ _ e (Nat.le_refl _) he hr)))
theorem frontF_ok {ps r : List (List UInt8)} {t : TagL} (h : frontF ps = some (t, r)) (hr : okAll r) : okAll ps := by
 unfold frontF at h
 split at h
 · cases h; exact hr
 · split at h
   · cases h
   · next l e q hl => exact langF_ok hl (restF_ok h hr)
theorem tagP_ok {ps : List (List UInt8)} {t : TagL} (h : tagP ps = some t) : okAll ps := by
 unfold tagP at h
 split at h
 · cases h
 · next t' hf => exact frontF_ok hf (fun p hp => by cases hp)
 · next t' p r hf =>
   split at h
   · next hp =>
     split at h
     · cases h
     · split at h
       · next h2 => exact frontF_ok hf (okAll_cons (privB_ok hp) (tagTail_ok 1 r (by rw [h2]; intro p hp; cases hp)))
       · cases h
   · cases h
theorem mem_joinD : ∀ (ps : List (List UInt8)) (c : UInt8), c ∈ joinD ps -> c = 45 \/ ∃ p ∈ ps, c ∈ p
 | [], c, h => by simp [joinD] at h
 | [p], c, h => by simp [joinD] at h; exact .inr ⟨p, by simp, h⟩
 | p :: q :: r, c, h => by
   rw [joinD] at h
   rw [List.mem_append, List.mem_cons] at h
   rcases h with h | h | h
   · exact .inr ⟨p, by simp, h⟩
   · exact .inl h
   · rcases mem_joinD (q :: r) c h with h | ⟨x, hx, hc⟩
     · exact .inl h
     · exact .inr ⟨x, List.mem_cons_of_mem _ hx, hc⟩
theorem tagF_chars {s : List UInt8} (h : (tagF s).isNone = false) : ∀ c ∈ s, tagC c = true := by
 intro c hc
 cases ht : tagF s with
 | none => rw [ht] at h; cases h
 | some t =>
   have hp := tagP_ok ht
   rw [<- joinD_partsOf s] at hc
   unfold tagC
   rcases mem_joinD _ c hc with rfl | ⟨p, hp1, hp2⟩
   · simp
   · rw [hp p hp1 c hp2]; rfl
theorem drop_head {l t : List UInt8} {k : Nat} {c : UInt8} (h : l.drop k = c :: t) : k < l.length /\ l.getD k 0 = c /\ l.drop (k + 1) = t := by
 have h1 : k < l.length := by
   by_cases hk : l.length <= k
   · rw [List.drop_of_length_le hk] at h; cases h
   · omega
 rw [List.drop_eq_getElem_cons h1] at h
 cases h
 exact ⟨h1, by simp [List.getD_eq_getElem?_getD, h1], rfl⟩
theorem drop_more {l a b : List UInt8} {k : Nat} (h : l.drop k = a ++ b) : l.drop (k + a.length) = b := by rw [<- List.drop_drop, h, List.drop_left]
theorem cutF_of {l a b : List UInt8} {k : Nat} (h : l.drop k = a ++ b) : cutF l k (k + a.length) = a := by
 unfold cutF
 rw [h, Nat.add_sub_cancel_left, List.take_left]
theorem gtF_plain {l b : List UInt8} : ∀ (a : List UInt8) (k : Nat), l.drop k = a ++ 62 :: b -> (∀ c ∈ a, c ≠ 62) -> gtF l k = k + a.length
 | [], k, h, _ => by
   obtain ⟨h1, h2, _⟩ := drop_head (show l.drop k = 62 :: b from h)
   rw [gtF_hit h1 h2]; rfl
 | c :: a, k, h, hc => by
   obtain ⟨h1, h2, h3⟩ := drop_head (show l.drop k = c :: (a ++ 62 :: b) from h)
   rw [gtF_go h1 (by rw [h2]; exact hc c (List.mem_cons_self ..)), gtF_plain a (k + 1) h3 (fun x hx => hc x (List.mem_cons_of_mem _ hx))]
   simp; omega
theorem tagE_plain {l b : List UInt8} (hb : ∀ c t, b = c :: t -> tagC c = false) : ∀ (a : List UInt8) (k : Nat), k <= l.length -> l.drop k = a ++ b -> (∀ c ∈ a, tagC c = true) -> tagE l k = k + a.length
 | [], k, hk, h, _ => by
   rcases b with _ | ⟨c, t⟩
   · have : l.length <= k := by have := congrArg List.length h; simp at this; omega
     rw [tagE_end this]; rfl
   · obtain ⟨h1, h2, _⟩ := drop_head (show l.drop k = c :: t from h)
     rw [tagE_stop h1 (by rw [h2]; exact hb c t rfl)]; rfl
 | c :: a, k, hk, h, hc => by
   obtain ⟨h1, h2, h3⟩ := drop_head (show l.drop k = c :: (a ++ b) from h)
   rw [tagE_go h1 (by rw [h2]; exact hc c (List.mem_cons_self ..)), tagE_plain hb a (k + 1) (by omega) h3 (fun x hx => hc x (List.mem_cons_of_mem _ hx))]
   simp; omega
def selfC (c : UInt8) : Bool := !(c == 10) && !(c == 13) && !(c == 92) && !(c == 34)
theorem selfC_of {c : UInt8} (h : selfC c = true) : ¬ (c = 10 \/ c = 13) /\ c ≠ 92 /\ c ≠ 34 := by
 unfold selfC at h
 simp at h
 exact ⟨fun e => e.elim h.1.1.1 h.1.1.2, h.1.2, h.2⟩
theorem closeF_plain {l b : List UInt8} : ∀ (a : List UInt8) (k : Nat), l.drop k = a ++ b -> (∀ c ∈ a, selfC c = true) -> closeF l k false = closeF l (k + a.length) false
 | [], k, _, _ => rfl
 | c :: a, k, h, hc => by
   obtain ⟨h1, h2, h3⟩ := drop_head (show l.drop k = c :: (a ++ b) from h)
   obtain ⟨s1, s2, s3⟩ := selfC_of (hc c (List.mem_cons_self ..))
   rw [closeF_go h1 (by rw [h2]; exact s1) (by rw [h2]; exact s2) (by rw [h2]; exact s3), closeF_plain a (k + 1) h3 (fun x hx => hc x (List.mem_cons_of_mem _ hx))]
   congr 1
   simp; omega
theorem hexU_self : ∀ d : Fin 16, selfC (hexU d.val) = true /\ hexU d.val ≠ 62 := by decide
theorem digs4_self (r : Nat) : ∀ c ∈ digs4 r, selfC c = true /\ c ≠ 62 := by
 intro c hc
 simp [digs4] at hc
 rcases hc with rfl | rfl | rfl | rfl
 · exact hexU_self ⟨r / 4096 % 16, Nat.mod_lt _ (by decide)⟩
 · exact hexU_self ⟨r / 256 % 16, Nat.mod_lt _ (by decide)⟩
 · exact hexU_self ⟨r / 16 % 16, Nat.mod_lt _ (by decide)⟩
 · exact hexU_self ⟨r % 16, Nat.mod_lt _ (by decide)⟩
theorem selfC_hi {c : UInt8} (h : 128 <= c.toNat) : selfC c = true /\ c ≠ 62 := by
 have key : ∀ d : UInt8, d.toNat < 128 -> c ≠ d := fun d hd e => by subst e; omega
 unfold selfC
 rw [beq_eq_false_iff_ne.2 (key 10 (by decide)), beq_eq_false_iff_ne.2 (key 13 (by decide)), beq_eq_false_iff_ne.2 (key 92 (by decide)), beq_eq_false_iff_ne.2 (key 34 (by decide))]
 exact ⟨rfl, key 62 (by decide)⟩
theorem byU_hi {v : Int} (h : 128 <= v) (hm : v <= 1114111) : ∀ c ∈ byU v, 128 <= c.toNat := by
 intro c hc
 unfold byU at hc
 by_cases c2 : v < 2048
 · rw [bytesOf2 h c2] at hc
   simp at hc
   rcases hc with rfl | rfl <;> (rw [ofNat_toNat (by omega)]; omega)
 by_cases c3 : v < 65536
 · rw [bytesOf3 (by omega) c3] at hc
   simp at hc
   rcases hc with rfl | rfl | rfl <;> (rw [ofNat_toNat (by omega)]; omega)
 · rw [bytesOf4 (by omega)] at hc
   simp at hc
   rcases hc with rfl | rfl | rfl | rfl <;> (rw [ofNat_toNat (by omega)]; omega)
theorem byU_self {v : Int} (hs : scal v = true) (h1 : v ≠ 10 /\ v ≠ 13 /\ v ≠ 92 /\ v ≠ 34) : ∀ c ∈ byU v, selfC c = true := by
 obtain ⟨h0, hm, _⟩ := scal_cases hs
 by_cases h : v < 128
 · rw [byU_1 h0 h]
   intro c hc
   obtain rfl := List.mem_singleton.1 hc
   have e := ofNat_toNat (n := v.toNat) (by omega)
   have key : ∀ d : UInt8, (d.toNat : Int) ≠ v -> UInt8.ofNat v.toNat ≠ d := fun d hd he => hd (by rw [<- he, e]; omega)
   unfold selfC
   rw [beq_eq_false_iff_ne.2 (key 10 (fun e => h1.1 e.symm)), beq_eq_false_iff_ne.2 (key 13 (fun e => h1.2.1 e.symm)), beq_eq_false_iff_ne.2 (key 92 (fun e => h1.2.2.1 e.symm)), beq_eq_false_iff_ne.2 (key 34 (fun e => h1.2.2.2 e.symm))]
   rfl
 · exact fun c hc => (selfC_hi (byU_hi (by omega) hm c hc)).1
theorem wr2_gt {v : Int} (hs : scal v = true) : ∀ c ∈ wrF 2 v, c ≠ 62 := by
 obtain ⟨h0, hm, _⟩ := scal_cases hs
 unfold wrF
 rw [if_neg (by decide)]
 split
 · intro c hc
   rcases List.mem_cons.1 hc with rfl | hc
   · decide
   rcases List.mem_cons.1 hc with rfl | hc
   · decide
   · exact (digs4_self _ c hc).2
 · next hb =>
   by_cases h : v < 128
   · rw [byU_1 h0 h]
     intro c hc e
     obtain rfl := List.mem_singleton.1 hc
     have e2 := ofNat_toNat (n := v.toNat) (by omega)
     rw [e] at e2
     have : v = 62 := by have : (62 : UInt8).toNat = 62 := rfl; omega
     subst this
     exact hb (.inr (by decide))
   · exact fun c hc => (selfC_hi (byU_hi (by omega) hm c hc)).2
theorem esc2_gt (t : List UInt8) : ∀ (k j : Nat), t.length - j <= k -> ∀ c ∈ escF 2 t j, c ≠ 62
 | k, j, hk => by
   by_cases h : t.length <= j
   · rw [escF_end h]; intro c hc; cases hc
   obtain ⟨v, n, hq⟩ : ∃ v n, nextAt t (j : Int) = (v, n) := ⟨_, _, rfl⟩
   by_cases hn : n = 0
   · subst hn
     rw [escF, dif_neg h, hq, dif_pos rfl]; intro c hc; cases hc
   · rw [escF_go (by omega) hq hn]
     intro c hc
     rcases List.mem_append.1 hc with hc | hc
     · exact wr2_gt (nextAt_bytes hq hn).2 c hc
     · match k, hk with
       | 0, hk => omega
       | k + 1, hk => exact esc2_gt t k (j + n) (by omega) c hc
theorem close_wr {l b : List UInt8} {k : Nat} {v : Int} (hs : scal v = true) (hd : l.drop k = wrF 1 v ++ b) : closeF l k false = closeF l (k + (wrF 1 v).length) false := by
 unfold wrF at hd ⊢
 rw [if_pos rfl] at hd ⊢
 cases hl : letF v with
 | some c =>
   rw [hl] at hd
   obtain ⟨h1, h2, h3⟩ := drop_head (show l.drop k = 92 :: c :: b from hd)
   obtain ⟨h4, h5, h6⟩ := drop_head h3
   have hc : ¬ (c = 10 \/ c = 13) := by
     unfold letF at hl
     repeat' (first | (split at hl; · cases hl; decide) | cases hl)
   rw [closeF_slash h1 h2, closeF_behind h4 (by rw [h5]; exact hc)]
   rfl
 | none =>
   rw [hl] at hd
   simp only at hd ⊢
   split at hd
   · next hb =>
     rw [if_pos hb]
     obtain ⟨h1, h2, h3⟩ := drop_head (show l.drop k = 92 :: (117 :: (digs4 v.toNat ++ b)) from hd)
     obtain ⟨h4, h5, h6⟩ := drop_head h3
     rw [closeF_slash h1 h2, closeF_behind h4 (by rw [h5]; decide), closeF_plain (digs4 v.toNat) (k + 1 + 1) h6 (fun c hc => (digs4_self _ c hc).1)]
     congr 1
   · next hb =>
     rw [if_neg hb]
     refine closeF_plain (byU v) k hd (byU_self hs ⟨fun e => ?_, fun e => ?_, fun e => ?_, fun e => ?_⟩) <;> (subst e; cases hl)
theorem close_esc {l b : List UInt8} (t : List UInt8) : ∀ (n j k : Nat), t.length - j <= n -> l.drop k = escF 1 t j ++ b -> closeF l k false = closeF l (k + (escF 1 t j).length) false
 | n, j, k, hk, hd => by
   by_cases h : t.length <= j
   · rw [escF_end h]; rfl
   obtain ⟨v, m, hq⟩ : ∃ v n, nextAt t (j : Int) = (v, n) := ⟨_, _, rfl⟩
   by_cases hn : m = 0
   · subst hn
     rw [escF, dif_neg h, hq, dif_pos rfl]; rfl
   · rw [escF_go (by omega) hq hn] at hd ⊢
     rw [List.append_assoc] at hd
     have hd2 := drop_more hd
     rw [close_wr (nextAt_bytes hq hn).2 hd]
     match n, hk with
     | 0, hk => omega
     | n + 1, hk =>
       rw [close_esc t n (j + m) _ (by omega) hd2]
       congr 1
       rw [List.length_append]; omega
theorem nextP_more {r : List UInt8} (x : List UInt8) {v : Int} {n : Nat} (h : nextP r = (v, n)) (hn : n ≠ 0) : nextP (r ++ x) = (v, n) := by
 have hb := nextP_bytes h hn
 have hl := nextP_bound (r := r) (by rw [h]; exact hn)
 rw [h] at hl
 have e : r ++ x = byU v ++ (r.drop n ++ x) := by rw [hb.1, <- List.append_assoc, List.take_append_drop]
 have hlen : (byU v).length = n := by rw [hb.1, List.length_take]; simp at hl; omega
 rw [e, next_byU hb.2, hlen]
theorem tail_label {l t rest : List UInt8} {b : Nat} (hd : l.drop b = t ++ 32 :: rest) : ∀ (k i e : Nat) (sc : List Int), t.length - i <= k -> i <= t.length -> scalF t i = some sc -> okRest sc = true -> (sc = [] -> e = b + t.length) -> tailF l (b + i) e = b + t.length
 | k, i, e, sc, hk, hi, hs, ho, he => by
   have hdi : l.drop (b + i) = t.drop i ++ 32 :: rest := by rw [<- List.drop_drop, hd, List.drop_append_of_le_length hi]
   by_cases hend : i = t.length
   · subst hend
     rw [scalF_end (Nat.le_refl _)] at hs
     cases hs
     rw [List.drop_length, List.nil_append] at hdi
     have hq : nextAt l ((b + t.length : Nat) : Int) = (32, 1) := by
       rw [nextAt_nat, hdi, nextP_1 (by decide)]; rfl
     rw [tailF_stop hq (.inr ⟨by decide, by decide⟩)]
     exact he rfl
   obtain ⟨v, n, hq⟩ : ∃ v n, nextAt t (i : Int) = (v, n) := ⟨_, _, rfl⟩
   by_cases hn : n = 0
   · subst hn
     rw [scalF_none (by omega) hq] at hs
     cases hs
   have hq2 : nextAt l ((b + i : Nat) : Int) = (v, n) := by
     rw [nextAt_nat] at hq ⊢
     rw [hdi]
     exact nextP_more _ hq hn
   have hbd := (nextAt_bound hq hn).2.1
   have hbd2 : i + n <= t.length := by omega
   rw [scalF_go (by omega) hq hn] at hs
   obtain ⟨sc', h1, rfl⟩ := Option.map_eq_some_iff.1 hs
   rw [okRest, Bool.and_eq_true] at ho
   obtain ⟨ho1, ho2⟩ := ho
   have hgo : ¬ (n = 0 \/ (v ≠ 46 /\ followB v = false)) := by
     rintro (h | ⟨h, h2⟩)
     · exact hn h
     · rw [h2, show (v == 46) = false from beq_eq_false_iff_ne.2 h] at ho1
       cases ho1
   rw [tailF_go hq2 hgo, Nat.add_assoc]
   match k, hk with
   | 0, hk => omega
   | k + 1, hk =>
     refine tail_label hd k (i + n) _ sc' (by omega) hbd2 h1 ho2 (fun hnil => ?_)
     subst hnil
     have hfull : i + n = t.length := by
       by_cases hx : i + n = t.length
       · exact hx
       · exfalso
         obtain ⟨v2, n2, hq3⟩ : ∃ v m, nextAt t ((i + n : Nat) : Int) = (v, m) := ⟨_, _, rfl⟩
         by_cases hn2 : n2 = 0
         · subst hn2; rw [scalF_none (by omega) hq3] at h1; cases h1
         · rw [scalF_go (by omega) hq3 hn2] at h1
           cases h4 : scalF t (i + n + n2) with
           | none => rw [h4] at h1; cases h1
           | some t => rw [h4] at h1; cases h1
     split
     · next hv =>
       subst hv
       rw [show followB 46 = false by decide] at ho1
       cases ho1
     · omega
theorem run_label {l t rest : List UInt8} {b : Nat} (hd : l.drop b = t ++ 32 :: rest) (hw : wholeR labelB t = true) : runF labelB l (b : Nat) = t.length /\ t.length ≠ 0 := by
 unfold wholeR at hw
 split at hw
 · next v sc hs =>
   rw [Bool.and_eq_true] at hw
   have hne : 0 < t.length := by
     rcases t with _ | ⟨c, r⟩
     · rw [scalF_end (by simp)] at hs; cases hs
     · simp
   obtain ⟨v', n, hq⟩ : ∃ v n, nextAt t ((0 : Nat) : Int) = (v, n) := ⟨_, _, rfl⟩
   have hn : n ≠ 0 := fun e => by subst e; rw [scalF_none hne hq] at hs; cases hs
   rw [scalF_go hne hq hn] at hs
   obtain ⟨sc', h1, h2⟩ := Option.map_eq_some_iff.1 hs
   cases h2
   have hbd := (nextAt_bound hq hn).2.1
   have hq2 : nextAt l ((b : Nat) : Int) = (v, n) := by
     rw [nextAt_nat] at hq ⊢
     rw [hd]
     exact nextP_more _ hq hn
   rw [runF_go hq2 (by rintro (h | h); exact hn h; rw [hw.1] at h; cases h)]
   have := tail_label hd t.length (0 + n) (b + n) sc (by omega) (by omega) h1 hw.2 (fun hnil => by
     subst hnil
     by_cases hx : 0 + n = t.length
     · omega
     · exfalso
       obtain ⟨v2, n2, hq3⟩ : ∃ v m, nextAt t ((0 + n : Nat) : Int) = (v, m) := ⟨_, _, rfl⟩
       by_cases hn2 : n2 = 0
       · subst hn2; rw [scalF_none (by omega) hq3] at h1; cases h1
       · rw [scalF_go (by omega) hq3 hn2] at h1
         cases h4 : scalF t (0 + n + n2) with
         | none => rw [h4] at h1; cases h1
         | some t => rw [h4] at h1; cases h1)
   rw [Nat.zero_add] at this
   rw [this]
   omega
 · cases hw
end Go.Proofs.YtmnigckpejcaeaaGreatDoor
namespace Go.Proofs.YtmnigckpejcaeaaGreatDoor
open Go.RowKit
set_option maxRecDepth 100000
theorem utf_all {t : List UInt8} (h : ¬ 0 <= utfF t 0) : utfF t 0 = -1 := by
 rcases utfF_ge t t.length 0 (by omega) with h1 | h1 <;> omega
theorem utf_of_iri {t : List UInt8} (h : iriN t = 0) : utfF t 0 = -1 := by
 unfold iriN at h
 by_cases hr : refN t = 0
 · unfold refN at hr
   split at hr
   · cases hr
   · split at hr
     · cases hr
     · next hu => exact utf_all hu
 · rw [if_pos hr] at h; exact absurd h hr
theorem iriAt_ang {l b : List UInt8} {i : Nat} {t : List UInt8} (hd : l.drop i = angF t ++ b) (ht : iriN t = 0) : iriAt l i = .inl (t, i + (angF t).length) := by
 unfold angF at hd
 obtain ⟨h1, h2, h3⟩ := drop_head (show l.drop i = 60 :: ((escF 2 t 0 ++ [62]) ++ b) from hd)
 rw [List.append_assoc, List.cons_append, List.nil_append] at h3
 have hg := gtF_plain (escF 2 t 0) (i + 1) h3 (esc2_gt t t.length 0 (by omega))
 have hlen : i + 1 + (escF 2 t 0).length < l.length := by
   have := congrArg List.length h3
   simp at this
   omega
 unfold iriAt
 rw [h2, if_neg (by simp), hg, if_neg (by omega), cutF_of h3, unesc_of_esc 2 (utf_of_iri ht)]
 simp only
 rw [if_neg (by rw [ht]; simp)]
 unfold angF
 simp
 omega
theorem term_cases {t : TermL} (h : termN t = 0) :
   (t.kind = 1 /\ t.type = [] /\ t.lang = [] /\ iriN t.text = 0) \/ (t.kind = 2 /\ t.type = [] /\ t.lang = [] /\ t.text.length <= 65536 /\ wholeR labelB t.text = true) \/ (t.kind = 3 /\ litN t = 0) := by
 unfold termN at h
 split at h
 · next hk =>
   split at h
   · cases h
   · next hn =>
     obtain ⟨h1, h2⟩ := Classical.not_not.1 hn
     split at h
     · next hk1 => exact .inl ⟨hk1, h1, h2, h⟩
     · next hk1 =>
       split at h
       · cases h
       · next hl =>
         split at h
         · next hw => exact .inr (.inl ⟨hk.resolve_left hk1, h1, h2, by omega, hw⟩)
         · cases h
 · split at h
   · next hk => exact .inr (.inr ⟨hk, h⟩)
   · cases h
theorem lit_cases {t : TermL} (h : litN t = 0) : t.text.length <= 65536 /\ utfF t.text 0 = -1 /\ iriN t.type = 0 /\ ((t.lang = [] /\ t.type ≠ tagged) \/ (t.lang ≠ [] /\ t.type = tagged /\ t.lang.length <= 65536 /\ (tagF t.lang).isNone = false /\ lowL t.lang = t.lang)) := by
 unfold litN at h
 split at h
 · cases h
 · next h1 =>
   split at h
   · cases h
   · next h2 =>
     split at h
     · next h3 => exact absurd h h3
     · next h3 =>
       split at h
       · next h4 => exact absurd h h4
       · next h4 =>
         split at h
         · cases h
         · next h5 =>
           refine ⟨by omega, utf_all h2, Classical.not_not.1 h3, ?_⟩
           by_cases hl : t.lang = []
           · refine .inl ⟨hl, fun ht => h5 ?_⟩
             rw [hl, ht]; simp
           · refine .inr ⟨hl, ?_, ?_⟩
             · by_cases ht : t.type = tagged
               · exact ht
               · exact absurd (by simp [hl, ht]) h5
             · have h6 := Classical.not_not.1 h4
               unfold langN at h6
               rw [if_neg hl] at h6
               split at h6
               · cases h6
               · split at h6
                 · cases h6
                 · next h7 h8 =>
                   split at h6
                   · next h9 => exact ⟨by omega, Bool.not_eq_true _ ▸ h8, h9⟩
                   · cases h6
theorem behind_text {t : TermL} (ht : litN t = 0) (hk : t.kind = 3) {l rest : List UInt8} {e : Nat} (hd : l.drop e = (if t.lang ≠ [] then 64 :: t.lang else if t.type ≠ plainT then 94 :: 94 :: angF t.type else []) ++ 32 :: rest) :
   behindF l t.text e = .inl (t, e + (if t.lang ≠ [] then 64 :: t.lang else if t.type ≠ plainT then 94 :: 94 :: angF t.type else []).length) := by
 obtain ⟨h1, h2, h3, h4⟩ := lit_cases ht
 obtain ⟨k, tx, ty, la⟩ := t
 simp only at hk h1 h2 h3 h4 hd ⊢
 subst hk
 rcases h4 with ⟨rfl, hty⟩ | ⟨hl, rfl, hlen, htag, hlow⟩
 · rw [if_neg (by simp)] at hd ⊢
   by_cases hp : ty = plainT
   · subst hp
     rw [if_neg (by simp)] at hd ⊢
     obtain ⟨_, g2, _⟩ := drop_head (show l.drop e = 32 :: rest from hd)
     unfold behindF
     rw [g2, if_neg (by decide), if_neg (by rintro ⟨h, _⟩; cases h)]
     rfl
   · rw [if_pos hp] at hd ⊢
     obtain ⟨_, g2, g3⟩ := drop_head (show l.drop e = 94 :: (94 :: angF ty ++ 32 :: rest) from hd)
     obtain ⟨_, g5, g6⟩ := drop_head (show l.drop (e + 1) = 94 :: (angF ty ++ 32 :: rest) from g3)
     unfold behindF
     rw [g2, g5, if_neg (by decide), if_pos ⟨rfl, rfl⟩, iriAt_ang g6 h3]
     simp only
     rw [if_neg hty]
     simp
     omega
 · rw [if_pos hl] at hd ⊢
   obtain ⟨g1, g2, g3⟩ := drop_head (show l.drop e = 64 :: (la ++ 32 :: rest) from hd)
   have hE := tagE_plain (l := l) (b := 32 :: rest) (fun c t h => by cases h; decide) la (e + 1) (by omega) g3 (tagF_chars htag)
   unfold behindF
   rw [g2, if_pos rfl]
   unfold tagAt
   rw [hE, cutF_of g3, if_neg (by omega), if_neg (by rw [htag]; simp), hlow]
   simp
   omega
theorem termAt_text {t : TermL} (ht : termN t = 0) {l rest : List UInt8} {i : Nat} (hd : l.drop i = textF t ++ 32 :: rest) : termAt l i = .inl (t, i + (textF t).length) := by
 rcases term_cases ht with ⟨hk, h1, h2, h3⟩ | ⟨hk, h1, h2, h3, h4⟩ | ⟨hk, h1⟩
 · have e : textF t = angF t.text := by unfold textF; rw [if_pos hk]
   rw [e] at hd ⊢
   have hi := iriAt_ang hd h3
   obtain ⟨_, g2, _⟩ := drop_head (show l.drop i = 60 :: ((escF 2 t.text 0 ++ [62]) ++ 32 :: rest) from hd)
   unfold termAt
   rw [g2, if_pos rfl, hi]
   obtain ⟨k, tx, ty, la⟩ := t
   simp only at hk h1 h2 ⊢
   rw [hk, h1, h2]
 · have e : textF t = 95 :: 58 :: t.text := by unfold textF; rw [if_neg (by omega), if_pos hk]
   rw [e] at hd ⊢
   obtain ⟨g1, g2, g3⟩ := drop_head (show l.drop i = 95 :: (58 :: t.text ++ 32 :: rest) from hd)
   obtain ⟨g4, g5, g6⟩ := drop_head (show l.drop (i + 1) = 58 :: (t.text ++ 32 :: rest) from g3)
   obtain ⟨hr, hr0⟩ := run_label g6 h4
   unfold termAt
   rw [g2, if_neg (by decide), if_neg (by decide), if_pos rfl]
   unfold blankAt
   rw [g5, if_neg (by simp), show i + 2 = i + 1 + 1 by omega, hr, if_neg hr0, if_neg (by omega), cutF_of g6]
   obtain ⟨k, tx, ty, la⟩ := t
   simp only at hk h1 h2 ⊢
   rw [hk, h1, h2]
   simp
   omega
 · have e : textF t = 34 :: (escF 1 t.text 0 ++ (34 :: (if t.lang ≠ [] then 64 :: t.lang else if t.type ≠ plainT then 94 :: 94 :: angF t.type else []))) := by
     unfold textF; rw [if_neg (by omega), if_neg (by omega)]
   rw [e] at hd ⊢
   obtain ⟨hl1, hl2, hl3, _⟩ := lit_cases h1
   obtain ⟨g1, g2, g3⟩ := drop_head (show l.drop i = 34 :: ((escF 1 t.text 0 ++ (34 :: (if t.lang ≠ [] then 64 :: t.lang else if t.type ≠ plainT then 94 :: 94 :: angF t.type else []))) ++ 32 :: rest) from hd)
   rw [List.append_assoc, List.cons_append] at g3
   have hc := close_esc t.text t.text.length 0 (i + 1) (by omega) g3
   have g4 := drop_more g3
   obtain ⟨g5, g6, g7⟩ := drop_head g4
   rw [closeF_quote g5 g6] at hc
   unfold termAt
   rw [g2, if_neg (by decide), if_pos rfl]
   unfold litAt
   rw [hc]
   simp only
   rw [cutF_of g3, unesc_of_esc 1 hl2]
   simp only
   rw [if_neg (by omega), behind_text h1 hk g7]
   simp
   omega
theorem blk_none {l b : List UInt8} {i : Nat} {c : UInt8} (hd : l.drop i = c :: b) (hc : ¬ (c = 32 \/ c = 9)) : blkF l i = i := by
 obtain ⟨h1, h2, _⟩ := drop_head hd
 exact blkF_stop h1 (by rw [h2]; exact hc)
theorem text_head {t : TermL} (ht : termN t = 0) : ∃ c r, textF t = c :: r /\ ((t.kind = 1 /\ c = 60) \/ (t.kind = 2 /\ c = 95) \/ (t.kind = 3 /\ c = 34)) := by
 rcases term_cases ht with ⟨hk, _⟩ | ⟨hk, _⟩ | ⟨hk, _⟩
 · exact ⟨60, _, by unfold textF; rw [if_pos hk]; rfl, .inl ⟨hk, rfl⟩⟩
 · exact ⟨95, _, by unfold textF; rw [if_neg (by omega), if_pos hk], .inr (.inl ⟨hk, rfl⟩)⟩
 · exact ⟨34, _, by unfold textF; rw [if_neg (by omega), if_neg (by omega)], .inr (.inr ⟨hk, rfl⟩)⟩
theorem line_cases {q : QuadL} (h : quadN q = 0) : (q.s.kind = 1 \/ q.s.kind = 2) /\ termN q.s = 0 /\ q.p.kind = 1 /\ termN q.p = 0 /\ termN q.o = 0 /\ (q.g = noTerm \/ ((q.g.kind = 1 \/ q.g.kind = 2) /\ termN q.g = 0)) := by
 unfold quadN at h
 split at h
 · cases h
 · next h1 =>
   split at h
   · next h2 => exact absurd h h2
   · next h2 =>
     split at h
     · cases h
     · next h3 =>
       split at h
       · next h4 => exact absurd h h4
       · next h4 =>
         split at h
         · cases h
         · split at h
           · next h6 => exact absurd h h6
           · next h6 =>
             refine ⟨Classical.not_not.1 h1, Classical.not_not.1 h2, Classical.not_not.1 h3, Classical.not_not.1 h4, Classical.not_not.1 h6, ?_⟩
             split at h
             · next h7 => exact .inl h7
             · split at h
               · cases h
               · next h8 => exact .inr ⟨Classical.not_not.1 h8, h⟩
theorem lineF_text {q : QuadL} (h : quadN q = 0) : lineF q = textF q.s ++ 32 :: (textF q.p ++ 32 :: (textF q.o ++ 32 :: (if q.g = noTerm then [46] else textF q.g ++ 32 :: [46]))) := by
 obtain ⟨h1, h2, h3, h4, h5, h6⟩ := line_cases h
 have ko : q.o.kind ≠ 0 := by rcases term_cases h5 with h | h | h <;> omega
 unfold lineF
 rw [List.filter_cons_of_pos (by simp; omega), List.filter_cons_of_pos (by simp; omega), List.filter_cons_of_pos (by simp; omega)]
 by_cases hg : q.g = noTerm
 · rw [if_pos hg, hg, List.filter_cons_of_neg (by simp [noTerm])]
   simp
 · have := h6.resolve_left hg
   rw [if_neg hg, List.filter_cons_of_pos (by simp; omega)]
   simp
end Go.Proofs.YtmnigckpejcaeaaGreatDoor
namespace Go.Proofs.YtmnigckpejcaeaaGreatDoor
open Go.RowKit
set_option maxRecDepth 100000
def eolC (c : UInt8) : Bool := c == 10 || c == 13
def eolF (l : List UInt8) (i : Nat) : Nat := if _h : l.length <= i then i else if eolC (l.getD i 0) = true then i else eolF l (i + 1)
termination_by l.length - i
theorem eolF_end {l : List UInt8} {i : Nat} (h : l.length <= i) : eolF l i = i := by rw [eolF, dif_pos h]
theorem eolF_hit {l : List UInt8} {i : Nat} (h : i < l.length) (hc : eolC (l.getD i 0) = true) : eolF l i = i := by rw [eolF, dif_neg (by omega), if_pos hc]
theorem eolF_go {l : List UInt8} {i : Nat} (h : i < l.length) (hc : eolC (l.getD i 0) = false) : eolF l i = eolF l (i + 1) := by rw [eolF, dif_neg (by omega), if_neg (by rw [hc]; simp)]
theorem eolF_bound (l : List UInt8) : ∀ (k i : Nat), l.length - i <= k -> i <= l.length -> i <= eolF l i /\ eolF l i <= l.length
 | k, i, hk, hi => by
   by_cases h : l.length <= i
   · rw [eolF_end h]; omega
   cases hc : eolC (l.getD i 0) with
   | true => rw [eolF_hit (by omega) hc]; omega
   | false =>
     rw [eolF_go (by omega) hc]
     match k, hk with
     | 0, hk => omega
     | k + 1, hk =>
       have := eolF_bound l k (i + 1) (by omega) (by omega)
       omega
theorem eolF_ge (l : List UInt8) (i : Nat) : i <= eolF l i := by
 by_cases h : i <= l.length
 · exact (eolF_bound l l.length i (by omega) h).1
 · rw [eolF_end (by omega)]; exact Nat.le_refl _
theorem eolF_plain {l b : List UInt8} {d : UInt8} (hd' : eolC d = true) : ∀ (a : List UInt8) (k : Nat), l.drop k = a ++ d :: b -> (∀ c ∈ a, eolC c = false) -> eolF l k = k + a.length
 | [], k, h, _ => by
   obtain ⟨h1, h2, _⟩ := drop_head (show l.drop k = d :: b from h)
   rw [eolF_hit h1 (by rw [h2]; exact hd')]; rfl
 | c :: a, k, h, hc => by
   obtain ⟨h1, h2, h3⟩ := drop_head (show l.drop k = c :: (a ++ d :: b) from h)
   rw [eolF_go h1 (by rw [h2]; exact hc c (List.mem_cons_self ..)), eolF_plain hd' a (k + 1) h3 (fun x hx => hc x (List.mem_cons_of_mem _ hx))]
   simp; omega
theorem eol_of_self {c : UInt8} (h : selfC c = true) : eolC c = false := by
 have := (selfC_of h).1
 unfold eolC
 rw [beq_eq_false_iff_ne.2 (fun e => this (.inl e)), beq_eq_false_iff_ne.2 (fun e => this (.inr e))]
 rfl
theorem eol_byU {v : Int} (hs : scal v = true) (h1 : v ≠ 10 /\ v ≠ 13) : ∀ c ∈ byU v, eolC c = false := by
 obtain ⟨h0, hm, _⟩ := scal_cases hs
 by_cases h : v < 128
 · rw [byU_1 h0 h]
   intro c hc
   obtain rfl := List.mem_singleton.1 hc
   have e := ofNat_toNat (n := v.toNat) (by omega)
   have key : ∀ d : UInt8, (d.toNat : Int) ≠ v -> UInt8.ofNat v.toNat ≠ d := fun d hd he => hd (by rw [<- he, e]; omega)
   unfold eolC
   rw [beq_eq_false_iff_ne.2 (key 10 (fun e => h1.1 e.symm)), beq_eq_false_iff_ne.2 (key 13 (fun e => h1.2 e.symm))]
   rfl
 · exact fun c hc => eol_of_self (selfC_hi (byU_hi (by omega) hm c hc)).1
theorem eol_wr {way v : Int} (hs : scal v = true) : ∀ c ∈ wrF way v, eolC c = false := by
 unfold wrF
 split
 · cases hl : letF v with
   | some d =>
     intro c hc
     simp only [List.mem_cons, List.not_mem_nil, or_false] at hc
     rcases hc with rfl | rfl
     · decide
     · unfold letF at hl
       repeat' (first | (split at hl; · cases hl; decide) | cases hl)
   | none =>
     simp only
     split
     · intro c hc
       rcases List.mem_cons.1 hc with rfl | hc
       · decide
       rcases List.mem_cons.1 hc with rfl | hc
       · decide
       · exact eol_of_self (digs4_self _ c hc).1
     · refine eol_byU hs ⟨fun e => ?_, fun e => ?_⟩ <;> (subst e; cases hl)
 · split
   · intro c hc
     rcases List.mem_cons.1 hc with rfl | hc
     · decide
     rcases List.mem_cons.1 hc with rfl | hc
     · decide
     · exact eol_of_self (digs4_self _ c hc).1
   · next h => exact eol_byU hs ⟨fun e => h (.inl (by omega)), fun e => h (.inl (by omega))⟩
theorem eol_esc (way : Int) (t : List UInt8) : ∀ (k j : Nat), t.length - j <= k -> ∀ c ∈ escF way t j, eolC c = false
 | k, j, hk => by
   by_cases h : t.length <= j
   · rw [escF_end h]; intro c hc; cases hc
   obtain ⟨v, n, hq⟩ : ∃ v n, nextAt t (j : Int) = (v, n) := ⟨_, _, rfl⟩
   by_cases hn : n = 0
   · subst hn
     rw [escF, dif_neg h, hq, dif_pos rfl]; intro c hc; cases hc
   · rw [escF_go (by omega) hq hn]
     intro c hc
     rcases List.mem_append.1 hc with hc | hc
     · exact eol_wr (nextAt_bytes hq hn).2 c hc
     · match k, hk with
       | 0, hk => omega
       | k + 1, hk => exact eol_esc way t k (j + n) (by omega) c hc
theorem eol_scal (t : List UInt8) : ∀ (k j : Nat) (sc : List Int), t.length - j <= k -> scalF t j = some sc -> (∀ v ∈ sc, v ≠ 10 /\ v ≠ 13) -> ∀ c ∈ t.drop j, eolC c = false
 | k, j, sc, hk, hs, hv => by
   by_cases h : t.length <= j
   · rw [List.drop_of_length_le h]; intro c hc; cases hc
   obtain ⟨v, n, hq⟩ : ∃ v n, nextAt t (j : Int) = (v, n) := ⟨_, _, rfl⟩
   by_cases hn : n = 0
   · subst hn
     rw [scalF_none (by omega) hq] at hs; cases hs
   · rw [scalF_go (by omega) hq hn] at hs
     obtain ⟨sc', h1, rfl⟩ := Option.map_eq_some_iff.1 hs
     have hb := nextAt_bytes hq hn
     have e : t.drop j = byU v ++ t.drop (j + n) := by rw [hb.1, <- List.drop_drop, List.take_append_drop]
     rw [e]
     intro c hc
     rcases List.mem_append.1 hc with hc | hc
     · exact eol_byU hb.2 (hv v (List.mem_cons_self ..)) c hc
     · match k, hk with
       | 0, hk => omega
       | k + 1, hk => exact eol_scal t k (j + n) sc' (by omega) h1 (fun x hx => hv x (List.mem_cons_of_mem _ hx)) c hc
theorem okRest_mem : ∀ (sc : List Int), okRest sc = true -> ∀ v ∈ sc, followB v = true \/ v = 46
 | [], _, v, hv => by cases hv
 | x :: t, h, v, hv => by
   rw [okRest, Bool.and_eq_true] at h
   rcases List.mem_cons.1 hv with rfl | hv
   · have h1 := h.1
     rw [Bool.or_eq_true, Bool.and_eq_true, beq_iff_eq] at h1
     rcases h1 with h1 | h1
     · exact .inl h1
     · exact .inr h1.1
   · exact okRest_mem t h.2 v hv
theorem follow_eol {v : Int} (h : followB v = true \/ v = 46) : v ≠ 10 /\ v ≠ 13 := by
 rcases h with h | rfl
 · refine ⟨fun e => ?_, fun e => ?_⟩ <;> (subst e; revert h; decide)
 · decide
theorem eol_label {t : List UInt8} (hw : wholeR labelB t = true) : ∀ c ∈ t, eolC c = false := by
 unfold wholeR at hw
 split at hw
 · next v sc hs =>
   rw [Bool.and_eq_true] at hw
   have := eol_scal t t.length 0 (v :: sc) (by omega) hs (fun x hx => by
     rcases List.mem_cons.1 hx with rfl | hx
     · exact follow_eol (.inl (label_follow hw.1))
     · exact follow_eol (okRest_mem sc hw.2 x hx))
   rwa [List.drop_zero] at this
 · cases hw
theorem eol_tag {c : UInt8} (h : tagC c = true) : eolC c = false := by
 have key : ∀ d : UInt8, tagC d = false -> c ≠ d := fun d hd e => by subst e; rw [h] at hd; cases hd
 unfold eolC
 rw [beq_eq_false_iff_ne.2 (key 10 (by decide)), beq_eq_false_iff_ne.2 (key 13 (by decide))]
 rfl
theorem eol_ang (t : List UInt8) : ∀ c ∈ angF t, eolC c = false := by
 intro c hc
 unfold angF at hc
 rcases List.mem_cons.1 hc with rfl | hc
 · decide
 rcases List.mem_append.1 hc with hc | hc
 · exact eol_esc 2 t t.length 0 (by omega) c hc
 · obtain rfl := List.mem_singleton.1 hc; decide
theorem eol_text {t : TermL} (ht : termN t = 0) : ∀ c ∈ textF t, eolC c = false := by
 rcases term_cases ht with ⟨hk, _⟩ | ⟨hk, _, _, _, h4⟩ | ⟨hk, h1⟩
 · unfold textF; rw [if_pos hk]; exact eol_ang _
 · unfold textF
   rw [if_neg (by omega), if_pos hk]
   intro c hc
   rcases List.mem_cons.1 hc with rfl | hc
   · decide
   rcases List.mem_cons.1 hc with rfl | hc
   · decide
   · exact eol_label h4 c hc
 · obtain ⟨_, _, _, h4⟩ := lit_cases h1
   unfold textF
   rw [if_neg (by omega), if_neg (by omega)]
   intro c hc
   rcases List.mem_cons.1 hc with rfl | hc
   · decide
   rcases List.mem_append.1 hc with hc | hc
   · exact eol_esc 1 _ _ 0 (Nat.le_refl _) c hc
   rcases List.mem_cons.1 hc with rfl | hc
   · decide
   split at hc
   · next hl =>
     rcases h4 with ⟨h5, _⟩ | ⟨_, _, _, htag, _⟩
     · exact absurd h5 hl
     rcases List.mem_cons.1 hc with rfl | hc
     · decide
     · exact eol_tag (tagF_chars htag c hc)
   · split at hc
     · rcases List.mem_cons.1 hc with rfl | hc
       · decide
       rcases List.mem_cons.1 hc with rfl | hc
       · decide
       · exact eol_ang _ c hc
     · cases hc
theorem eol_line {q : QuadL} (h : quadN q = 0) : ∀ c ∈ lineF q, eolC c = false := by
 obtain ⟨_, h2, _, h4, h5, h6⟩ := line_cases h
 rw [lineF_text h]
 intro c hc
 have sp : eolC 32 = false := by decide
 rcases List.mem_append.1 hc with hc | hc
 · exact eol_text h2 c hc
 rcases List.mem_cons.1 hc with rfl | hc
 · exact sp
 rcases List.mem_append.1 hc with hc | hc
 · exact eol_text h4 c hc
 rcases List.mem_cons.1 hc with rfl | hc
 · exact sp
 rcases List.mem_append.1 hc with hc | hc
 · exact eol_text h5 c hc
 rcases List.mem_cons.1 hc with rfl | hc
 · exact sp
 split at hc
 · obtain rfl := List.mem_singleton.1 hc; decide
 · next hg =>
   rcases List.mem_append.1 hc with hc | hc
   · exact eol_text (h6.resolve_left hg).2 c hc
   rcases List.mem_cons.1 hc with rfl | hc
   · exact sp
   · obtain rfl := List.mem_singleton.1 hc; decide
end Go.Proofs.YtmnigckpejcaeaaGreatDoor
namespace Go.Proofs.YtmnigckpejcaeaaGreatDoor
open Go.RowKit
set_option maxRecDepth 100000
theorem putF_inl {a t : List UInt8} {o : List UInt8 ⊕ (Nat × Int)} (h : putF a o = .inl t) : ∃ r, o = .inl r /\ t = a ++ r := by
 cases o with
 | inl r => simp only [putF] at h; cases h; exact ⟨r, rfl, rfl⟩
 | inr f => simp only [putF] at h; cases h
theorem atF_scal {way v e : Int} {l : List UInt8} {j n : Nat} (h : atF way l j = ((v, n), e)) (hn : n ≠ 0) : scal v = true /\ j + n <= l.length := by
 unfold atF at h
 split at h
 · have h1 := congrArg Prod.fst h
   simp only at h1
   have := escN_bound h1 hn
   exact ⟨this.2, by have := this.1; simp at this; omega⟩
 · have h1 := congrArg Prod.fst h
   simp only at h1
   have h2 := nextAt_bound h1 hn
   exact ⟨(nextAt_bytes h1 hn).2, by omega⟩
theorem cut_next {l : List UInt8} {b i E n : Nat} {v : Int} (hb : b <= i) (hE : i + n <= E) (hq : nextAt l (i : Int) = (v, n)) (hn : n ≠ 0) : nextAt ((l.drop b).take (E - b)) ((i - b : Nat) : Int) = (v, n) := by
 have hy := nextAt_bytes hq hn
 rw [nextAt_nat, List.drop_take, List.drop_drop, show b + (i - b) = i by omega, show E - b - (i - b) = E - i by omega]
 have hl := (nextAt_bound hq hn).2.1
 have e : (l.drop i).take (E - i) = byU v ++ ((l.drop i).drop n).take (E - i - n) := by
   rw [hy.1]
   conv => lhs; rw [<- List.take_append_drop n (l.drop i)]
   rw [List.take_append, List.length_take, List.length_drop, Nat.min_eq_left (by omega), List.take_of_length_le (by simp; omega)]
 have hlen : (byU v).length = n := by rw [hy.1, List.length_take, List.length_drop]; omega
 rw [e, next_byU hy.2, hlen]
theorem tail_run (l : List UInt8) (b : Nat) : ∀ (k i e E : Nat), l.length - i <= k -> b <= i -> tailF l i e = E -> E <= l.length -> E = e \/ (i < E /\ ∃ sc, sc ≠ [] /\ scalF ((l.drop b).take (E - b)) (i - b) = some sc /\ okRest sc = true)
 | k, i, e, E, hk, hb, h, hEl => by
   obtain ⟨v, n, hq⟩ : ∃ v n, nextAt l (i : Int) = (v, n) := ⟨_, _, rfl⟩
   by_cases hs : n = 0 \/ (v ≠ 46 /\ followB v = false)
   · rw [tailF_stop hq hs] at h; exact .inl h.symm
   have hn : n ≠ 0 := fun x => hs (.inl x)
   rw [tailF_go hq hs] at h
   have hbd := (nextAt_bound hq hn).2.1
   have hbd2 : i + n <= l.length := by omega
   have hlen : ((l.drop b).take (E - b)).length = E - b := by rw [List.length_take, List.length_drop]; omega
   match k, hk with
   | 0, hk => omega
   | k + 1, hk =>
     have ih := fun e' => tail_run l b k (i + n) e' E (by omega) (by omega)
     by_cases hv : v = 46
     · subst hv
       rw [if_pos rfl] at h
       rcases ih e h hEl with h1 | ⟨h1, sc, h2, h3, h4⟩
       · exact .inl h1
       · refine .inr ⟨by omega, 46 :: sc, by simp, ?_, by rw [okRest_dot h2]; exact h4⟩
         rw [scalF_go (by rw [hlen]; omega) (cut_next hb (by omega) hq hn) hn, show i - b + n = i + n - b by omega, h3]
         rfl
     · rw [if_neg hv] at h
       have hf : followB v = true := by
         cases hf : followB v with
         | true => rfl
         | false => exact absurd (.inr ⟨hv, hf⟩) hs
       rcases ih (i + n) h hEl with h1 | ⟨h1, sc, h2, h3, h4⟩
       · refine .inr ⟨by omega, [v], by simp, ?_, by rw [okRest_follow hf]; rfl⟩
         rw [scalF_go (by rw [hlen]; omega) (cut_next hb (by omega) hq hn) hn, scalF_end (by rw [hlen]; omega)]
         rfl
       · refine .inr ⟨by omega, v :: sc, by simp, ?_, by rw [okRest_follow hf]; exact h4⟩
         rw [scalF_go (by rw [hlen]; omega) (cut_next hb (by omega) hq hn) hn, show i - b + n = i + n - b by omega, h3]
         rfl
theorem tailF_le (l : List UInt8) : ∀ (k i e : Nat), l.length - i <= k -> e <= l.length -> tailF l i e <= l.length
 | k, i, e, hk, he => by
   obtain ⟨v, n, hq⟩ : ∃ v n, nextAt l (i : Int) = (v, n) := ⟨_, _, rfl⟩
   by_cases hs : n = 0 \/ (v ≠ 46 /\ followB v = false)
   · rw [tailF_stop hq hs]; exact he
   have hn : n ≠ 0 := fun x => hs (.inl x)
   have hbd := (nextAt_bound hq hn).2.1
   rw [tailF_go hq hs]
   match k, hk with
   | 0, hk => omega
   | k + 1, hk => exact tailF_le l k (i + n) _ (by omega) (by split <;> omega)
theorem run_ok {l : List UInt8} {b : Nat} (h : runF labelB l (b : Nat) ≠ 0) : b + runF labelB l (b : Nat) <= l.length /\ wholeR labelB (cutF l b (b + runF labelB l (b : Nat))) = true := by
 obtain ⟨v, n, hq⟩ : ∃ v n, nextAt l (b : Int) = (v, n) := ⟨_, _, rfl⟩
 by_cases hs : n = 0 \/ labelB v = false
 · rw [runF_no hq hs] at h; exact absurd rfl h
 have hn : n ≠ 0 := fun x => hs (.inl x)
 have hl : labelB v = true := by
   cases hf : labelB v with
   | true => rfl
   | false => exact absurd (.inr hf) hs
 have hbd := (nextAt_bound hq hn).2.1
 rw [runF_go hq hs] at h ⊢
 obtain ⟨E, hE⟩ : ∃ E, tailF l (b + n) (b + n) = E := ⟨_, rfl⟩
 have h1 := tailF_le l l.length (b + n) (b + n) (by omega) (by omega)
 have h2 := tailF_ge l l.length (b + n) (b + n) (by omega) (Nat.le_refl _)
 rw [hE] at h h1 h2 ⊢
 refine ⟨by omega, ?_⟩
 have hlen : ((l.drop b).take (E - b)).length = E - b := by rw [List.length_take, List.length_drop]; omega
 have hc : cutF l b (b + (E - b)) = (l.drop b).take (E - b) := by unfold cutF; rw [Nat.add_sub_cancel_left]
 have hq2 := cut_next (E := E) (Nat.le_refl b) (by omega) hq hn
 rw [Nat.sub_self] at hq2
 rw [hc]
 unfold wholeR
 rw [scalF_go (by rw [hlen]; omega) hq2 hn, Nat.zero_add]
 rcases tail_run l b l.length (b + n) (b + n) E (by omega) (by omega) hE h1 with h3 | ⟨h3, sc, _, h5, h6⟩
 · rw [scalF_end (by rw [hlen]; omega)]
   simp [hl, okRest]
 · rw [show b + n - b = n by omega] at h5
   rw [h5]
   simp [hl, h6]
end Go.Proofs.YtmnigckpejcaeaaGreatDoor
namespace Go.Proofs.YtmnigckpejcaeaaGreatDoor
open Go.RowKit
set_option maxRecDepth 100000
theorem getD_lt {l : List UInt8} {i : Nat} {c : UInt8} (h : l.getD i 0 = c) (hc : c ≠ 0) : i < l.length := by
 by_cases hi : i < l.length
 · exact hi
 · rw [List.getD_eq_getElem?_getD, List.getElem?_eq_none (by omega)] at h
   exact absurd h.symm hc
theorem putF_inr {a : List UInt8} {f : Nat × Int} {o : List UInt8 ⊕ (Nat × Int)} (h : putF a o = .inr f) : o = .inr f := by
 cases o with
 | inl r => simp only [putF] at h; cases h
 | inr g => simp only [putF] at h; cases h; rfl
theorem unesc_at (way : Int) (l : List UInt8) : ∀ (k j p : Nat) (e : Int), l.length - j <= k -> unescF way l j = .inr (p, e) -> p < l.length /\ (e = 40 \/ e = 41)
 | k, j, p, e, hk, h => by
   by_cases hj : l.length <= j
   · rw [unescF_end hj] at h; cases h
   obtain ⟨v, n, e', hq⟩ : ∃ v n e, atF way l j = ((v, n), e) := ⟨_, _, _, rfl⟩
   by_cases hn : n = 0
   · subst hn
     rw [unescF_bad (by omega) hq] at h
     cases h
     refine ⟨by omega, ?_⟩
     unfold atF at hq
     split at hq
     · have := congrArg Prod.snd hq; simp only at this; omega
     · have := congrArg Prod.snd hq; simp only at this; omega
   · rw [unescF_go (by omega) hq hn] at h
     match k, hk with
     | 0, hk => omega
     | k + 1, hk => exact unesc_at way l k (j + n) p e (by omega) (putF_inr h)
theorem cutF_len2 {l : List UInt8} {a b : Nat} (h : b <= l.length) : (cutF l a b).length = b - a := by unfold cutF; simp; omega
theorem iriAt_bad {l : List UInt8} {i p : Nat} {e : Int} (hi : i <= l.length) (h : iriAt l i = .inr (p, e)) : p <= l.length /\ e ≠ 0 := by
 unfold iriAt at h
 split at h
 · cases h; exact ⟨hi, by decide⟩
 · next h60 =>
   have hlt := getD_lt (Classical.not_not.1 h60) (by decide)
   split at h
   · cases h; exact ⟨Nat.le_refl _, by decide⟩
   · next hg =>
     split at h
     · next q c hu =>
       cases h
       have := unesc_at 2 _ _ 0 q e (Nat.le_refl _) hu
       rw [cutF_len2 (by omega)] at this
       exact ⟨by omega, by omega⟩
     · split at h
       · next t _ hne => cases h; exact ⟨hi, hne⟩
       · cases h
theorem iriAt_good {l t : List UInt8} {i n : Nat} (h : iriAt l i = .inl (t, n)) : iriN t = 0 /\ i < n /\ n <= l.length := by
 unfold iriAt at h
 split at h
 · cases h
 · next h60 =>
   have hlt := getD_lt (Classical.not_not.1 h60) (by decide)
   split at h
   · cases h
   · next hg =>
     split at h
     · cases h
     · split at h
       · cases h
       · next hne =>
         cases h
         have := gtF_bound l l.length (i + 1) (by omega) (by omega)
         exact ⟨Classical.not_not.1 hne, by omega, by omega⟩
theorem tagAt_bad {l : List UInt8} {i p : Nat} {e : Int} (hi : i < l.length) (h : tagAt l i = .inr (p, e)) : p <= l.length /\ e ≠ 0 := by
 unfold tagAt at h
 split at h
 · cases h; exact ⟨by omega, by decide⟩
 · split at h
   · cases h; exact ⟨by omega, by decide⟩
   · cases h
theorem behindF_bad {l t : List UInt8} {k p : Nat} {e : Int} (hk : k <= l.length) (h : behindF l t k = .inr (p, e)) : p <= l.length /\ e ≠ 0 := by
 unfold behindF at h
 split at h
 · next h64 =>
   split at h
   · next f hf => cases h; exact tagAt_bad (getD_lt h64 (by decide)) hf
   · cases h
 · split at h
   · next h94 =>
     have := getD_lt h94.2 (by decide)
     split at h
     · next f hf => cases h; exact iriAt_bad (by omega) hf
     · split at h
       · cases h; exact ⟨hk, by decide⟩
       · cases h
   · cases h
theorem closeF_bad (l : List UInt8) : ∀ (k i : Nat) (s : Bool) (p : Nat) (e : Int), l.length - i <= k -> closeF l i s = .inr (p, e) -> p <= l.length /\ e ≠ 0
 | k, i, s, p, e, hk, hq => by
   by_cases h : l.length <= i
   · rw [closeF_end h] at hq; cases hq; exact ⟨Nat.le_refl _, by decide⟩
   by_cases h1 : l.getD i 0 = 10 \/ l.getD i 0 = 13
   · rw [closeF_line (by omega) h1] at hq; cases hq; exact ⟨by omega, by decide⟩
   have step : ∀ s', closeF l (i + 1) s' = .inr (p, e) -> p <= l.length /\ e ≠ 0 := fun s' h' => by
     match k, hk with
     | 0, hk => omega
     | k + 1, hk => exact closeF_bad l k (i + 1) s' p e (by omega) h'
   cases s with
   | true => rw [closeF_behind (by omega) h1] at hq; exact step _ hq
   | false =>
     by_cases h2 : l.getD i 0 = 92
     · rw [closeF_slash (by omega) h2] at hq; exact step _ hq
     by_cases h3 : l.getD i 0 = 34
     · rw [closeF_quote (by omega) h3] at hq; cases hq
     · rw [closeF_go (by omega) h1 h2 h3] at hq; exact step _ hq
theorem litAt_bad {l : List UInt8} {i p : Nat} {e : Int} (hi : i < l.length) (h : litAt l i = .inr (p, e)) : p <= l.length /\ e ≠ 0 := by
 unfold litAt at h
 split at h
 · next f hf => cases h; exact closeF_bad l l.length (i + 1) false p e (by omega) hf
 · next k hc =>
   have hb := closeF_bound l l.length (i + 1) false k (by omega) hc
   split at h
   · next q c hu =>
     cases h
     have := unesc_at 1 _ _ 0 q e (Nat.le_refl _) hu
     rw [cutF_len2 (by omega)] at this
     exact ⟨by omega, by omega⟩
   · split at h
     · cases h; exact ⟨by omega, by decide⟩
     · exact behindF_bad (by omega) h
theorem blankAt_bad {l : List UInt8} {i p : Nat} {e : Int} (hi : i < l.length) (h : blankAt l i = .inr (p, e)) : p <= l.length /\ e ≠ 0 := by
 unfold blankAt at h
 split at h
 · cases h; exact ⟨by omega, by decide⟩
 · next h58 =>
   have := getD_lt (Classical.not_not.1 h58) (by decide)
   split at h
   · cases h; exact ⟨by omega, by decide⟩
   · split at h
     · cases h; exact ⟨by omega, by decide⟩
     · cases h
theorem termAt_bad {l : List UInt8} {i p : Nat} {e : Int} (hi : i <= l.length) (h : termAt l i = .inr (p, e)) : p <= l.length /\ e ≠ 0 := by
 unfold termAt at h
 split at h
 · split at h
   · next f hf => cases h; exact iriAt_bad hi hf
   · cases h
 · split at h
   · next h34 => exact litAt_bad (getD_lt h34 (by decide)) h
   · split at h
     · next h95 => exact blankAt_bad (getD_lt h95 (by decide)) h
     · cases h; exact ⟨hi, by decide⟩
theorem termAt_end {l : List UInt8} {i n : Nat} {t : TermL} (h : termAt l i = .inl (t, n)) : i < n /\ n <= l.length := by
 unfold termAt at h
 split at h
 · split at h
   · cases h
   · next hf => cases h; exact (iriAt_good hf).2
 · split at h
   · next h34 =>
     have hi := getD_lt h34 (by decide)
     unfold litAt at h
     split at h
     · cases h
     · next k hc =>
       have hb := closeF_bound l l.length (i + 1) false k (by omega) hc
       split at h
       · cases h
       · split at h
         · cases h
         · unfold behindF at h
           split at h
           · next h64 =>
             have h64' := getD_lt h64 (by decide)
             split at h
             · cases h
             · next lang m hf =>
               cases h
               unfold tagAt at hf
               split at hf
               · cases hf
               · split at hf
                 · cases hf
                 · cases hf
                   have := tagE_bound l l.length (k + 1 + 1) (by omega) (by omega)
                   omega
           · split at h
             · split at h
               · cases h
               · next ty m hf =>
                 have := iriAt_good hf
                 split at h
                 · cases h
                 · cases h; omega
             · cases h; omega
   · split at h
     · next h95 =>
       unfold blankAt at h
       split at h
       · cases h
       · split at h
         · cases h
         · next h0 =>
           have := (run_ok h0).1
           split at h
           · cases h
           · cases h; omega
     · cases h
theorem slotF_bad {l s : List UInt8} {i p : Nat} {e : Int} (hi : i <= l.length) (h : slotF l i s = .inr (p, e)) : p <= l.length /\ e ≠ 0 := by
 unfold slotF at h
 split at h
 · split at h
   · next f hf => cases h; exact termAt_bad hi hf
   · cases h
 · cases h; exact ⟨hi, by decide⟩
theorem slotF_end {l s : List UInt8} {i n : Nat} {t : TermL} (h : slotF l i s = .inl (t, n)) : i < n /\ n <= l.length := by
 unfold slotF at h
 split at h
 · split at h
   · cases h
   · next hf =>
     cases h
     have := termAt_end hf
     have h2 := blkF_bound l l.length _ (by omega) this.2
     omega
 · cases h
theorem stmtF_bad {l : List UInt8} {i p : Nat} {e : Int} (hi : i <= l.length) (h : stmtF l i = .inr (p, e)) : p <= l.length /\ e ≠ 0 := by
 unfold stmtF at h
 split at h
 · next f hf => cases h; exact slotF_bad hi hf
 · next s i1 h1 =>
   have e1 := slotF_end h1
   split at h
   · next f hf => cases h; exact slotF_bad e1.2 hf
   · next p' i2 h2 =>
     have e2 := slotF_end h2
     split at h
     · next f hf => cases h; exact slotF_bad e2.2 hf
     · next o i3 h3 =>
       have e3 := slotF_end h3
       split at h
       · cases h
       · split at h
         · next f hf => cases h; exact slotF_bad e3.2 hf
         · next g i4 h4 =>
           have e4 := slotF_end h4
           split at h
           · cases h
           · cases h; exact ⟨e4.2, by decide⟩
theorem stmtF_end {l : List UInt8} {i n : Nat} {q : QuadL} (h : stmtF l i = .inl (q, n)) : i < n /\ n <= l.length := by
 unfold stmtF at h
 split at h
 · cases h
 · next s i1 h1 =>
   have e1 := slotF_end h1
   split at h
   · cases h
   · next p' i2 h2 =>
     have e2 := slotF_end h2
     split at h
     · cases h
     · next o i3 h3 =>
       have e3 := slotF_end h3
       split at h
       · next h46 => cases h; have := getD_lt h46 (by decide); omega
       · split at h
         · cases h
         · next g i4 h4 =>
           have e4 := slotF_end h4
           split at h
           · next h46 => cases h; have := getD_lt h46 (by decide); omega
           · cases h
theorem restF_bad {l : List UInt8} {i p : Nat} {e : Int} (hi : i <= l.length) (h : restF' l i = some (p, e)) : p <= l.length /\ e ≠ 0 := by
 have hb := blkF_bound l l.length i (by omega) hi
 unfold restF' at h
 split at h
 · cases h
 · split at h
   · cases h; exact ⟨hb.2, by decide⟩
   · split at h
     · next hu =>
       cases h
       have := utfF_ge (l.drop (blkF l i)) _ 0 (Nat.le_refl _)
       rw [List.length_drop] at this
       exact ⟨by omega, by decide⟩
     · cases h
theorem lineAt_bad {l : List UInt8} {p : Nat} {e : Int} (h : lineAt l = .inr (p, e)) : p <= l.length /\ e ≠ 0 := by
 have hb := blkF_bound l l.length 0 (by omega) (Nat.zero_le _)
 unfold lineAt at h
 split at h
 · split at h
   · next f hf => cases h; exact stmtF_bad hb.2 hf
   · next q n hs =>
     split at h
     · next f hf => cases h; exact restF_bad (stmtF_end hs).2 hf
     · cases h
 · split at h
   · next f hf => cases h; exact restF_bad (Nat.zero_le _) hf
   · cases h
end Go.Proofs.YtmnigckpejcaeaaGreatDoor
namespace Go.Proofs.YtmnigckpejcaeaaGreatDoor
open Go.RowKit
set_option maxRecDepth 100000
def NextOut (w' : World) (e : Ending) : (TermL × Nat) ⊕ (Nat × Int) -> Prop
 | .inl (t, n) => e = .returned (.tuple #[termV t, .int .i64 (n : Int), .nilIface])
 | .inr (p, c) => ∃ t n v, e = .returned (.tuple #[termV t, .int .i64 n, v]) /\ ErrIs w' v (.inr (p, c))
theorem nextOut_bad {x : (TermL × Nat) ⊕ (Nat × Int)} {p : Nat} {c : Int} {w : World} {v : Value} {k n : Int} {a b d : List UInt8} (h : x = .inr (p, c)) (he : ErrIs w v (.inr (p, c))) :
   NextOut w (.returned (.tuple #[.agg #[.int .i64 k, .string (B a), .string (B b), .string (B d)], .int .i64 n, v])) x := by
 subst h
 exact ⟨⟨k, a, b, d⟩, n, v, rfl, he⟩
theorem err_set {w : World} {v u : Value} {x : List UInt8 ⊕ (Nat × Int)} {R o : Nat} (h : ErrIs w v x) (hR : ∀ b, v = .iface 77 (.pointer (some ⟨b, 0, none⟩)) -> b ≠ R) : ErrIs (w.setCell ⟨R, o, none⟩ u) v x := by
 rcases x with t | ⟨p, n⟩
 · exact h
 · obtain ⟨b, rfl, h1, h2⟩ := h
   have hne := hR b rfl
   exact ⟨b, rfl, by rw [World.cell?_setCell_other _ _ _ _ (fun e => hne (by cases e; rfl))]; exact h1, by rw [World.cell?_setCell_other _ _ _ _ (fun e => hne (by cases e; rfl))]; exact h2⟩
theorem err_new (w : World) (p : Nat) (n : Int) : ErrIs (w.alloc (.cells #[.int .i64 (p : Int), .iface 28 (.int .i64 n)] 79)) (.iface 77 (.pointer (some ⟨w.heap.size, 0, none⟩))) (.inr (p, n)) :=
 ⟨_, rfl, by rw [World.cell?_alloc_new]; rfl, by rw [World.cell?_alloc_new]; rfl⟩
set_option maxHeartbeats 400000 in
theorem nothing_l (l : List UInt8) (i : Nat) (w : World) :
   Calls Tryz.prog 232 #[.string (B l), .int .i64 (i : Int)] w fun e w' => NextOut w' e (.inr (i, 90)) /\ Below w.heap.size w w' := by
 have AT := Lib.hid termAtErr_l
 go_enter Tryz.func232, Tryz.ntmps232
 go_wp2_with (go_at_call 247; refine (AT.out _ _ _).mono ?_; rintro e w4 ⟨rfl, rfl⟩)
 refine bodyPost_ret (v := .tuple #[.agg #[.int .i64 0, .string ⟨#[]⟩, .string ⟨#[]⟩, .string ⟨#[]⟩], .int .i64 0, .iface 77 (.pointer (some ⟨w.heap.size + 1, 0, none⟩))]) (by simp [results, Tryz.results232, go_sem]) rfl ?_
 refine ⟨nextOut_bad (a := []) (b := []) (d := []) rfl ?_, ((Below.refl _ _).alloc (Nat.le_refl _) _).alloc (by simp) _⟩
 have h := err_new (w.alloc (.cells #[.int .i64 0, .string ⟨#[]⟩, .string ⟨#[]⟩, .string ⟨#[]⟩] 54)) i 90
 rw [World.size_alloc] at h
 exact h
theorem assertB (a : Option Addr) (u : World) : (Instr.typeAssert (.iface 77 (.pointer a)) 34 77 false).run Tryz.prog u = .ok (.pointer a) u := by kernel_rfl
set_option maxHeartbeats 400000 in
theorem moved_l (v : Value) (p d : Nat) (D n : Int) (hD : D = (d : Int)) (w : World) (hv : ErrIs w v (.inr (p, n))) (hp : p + d <= 4611686018427387904) :
   Calls Tryz.prog 249 #[v, .int .i64 D] w fun e w' => ∃ v', e = .returned v' /\ ErrIs w' v' (.inr (p + d, n)) /\ Below w.heap.size w w' := by
 subst hD
 obtain ⟨b, rfl, h1, h2⟩ := hv
 have hb : b < w.heap.size := World.block_lt_of_cell? _ _ h1
 have TA := fun u => assertB (some ⟨b, 0, none⟩) u
 go_enter Tryz.func249, Tryz.ntmps249
 go_wp2_with fail
 refine region_still 10 (by kernel_rfl) (by kernel_rfl) ?_; simp only [List.take_succ_cons, List.take_zero, List.drop_succ_cons, List.drop_zero]
 repeat still_step
 refine wpStill_nil ?_
 go_wp2_with fail
 go_ret
 refine ⟨_, rfl, ⟨w.heap.size, rfl, ?_, ?_⟩, ((Below.refl _ _).alloc (Nat.le_refl _) _).drew⟩
 · rw [show (w.alloc (.cells #[.int .i64 ((p : Int) + (d : Int)), .iface 28 (.int .i64 n)] 79)).drew.cell? ⟨w.heap.size, 0, none⟩ = (w.alloc (.cells #[.int .i64 ((p : Int) + (d : Int)), .iface 28 (.int .i64 n)] 79)).cell? ⟨w.heap.size, 0, none⟩ from rfl, World.cell?_alloc_new]; rfl
 · rw [show (w.alloc (.cells #[.int .i64 ((p : Int) + (d : Int)), .iface 28 (.int .i64 n)] 79)).drew.cell? ⟨w.heap.size, 1, none⟩ = (w.alloc (.cells #[.int .i64 ((p : Int) + (d : Int)), .iface 28 (.int .i64 n)] 79)).cell? ⟨w.heap.size, 1, none⟩ from rfl, World.cell?_alloc_new]; rfl
theorem unescape_ok {way : Int} {l t : List UInt8} (h : unescF way l 0 = .inl t) (hl : l.length <= 16777216) (w : World) :
   Calls Tryz.prog 248 #[.string (B l), .int .i64 way] w fun e w' => e = .returned (.tuple #[.string (B t), .nilIface]) /\ Below w.heap.size w w' :=
 (unescape_l way l w hl).mono fun e w' => by
   rw [h]
   rintro ⟨⟨v, rfl, hv⟩, hb⟩
   obtain rfl : v = .nilIface := hv
   exact ⟨rfl, hb⟩
theorem unescape_bad {way : Int} {l : List UInt8} {p : Nat} {n : Int} (h : unescF way l 0 = .inr (p, n)) (hl : l.length <= 16777216) (w : World) :
   Calls Tryz.prog 248 #[.string (B l), .int .i64 way] w fun e w' => ∃ b, e = .returned (.tuple #[.string ⟨#[]⟩, .iface 77 (.pointer (some ⟨b, 0, none⟩))]) /\ ErrIs w' (.iface 77 (.pointer (some ⟨b, 0, none⟩))) (.inr (p, n)) /\ Below w.heap.size w w' :=
 (unescape_l way l w hl).mono fun e w' => by
   rw [h]
   rintro ⟨⟨v, rfl, hv⟩, hb⟩
   have hv2 := hv
   obtain ⟨b, rfl, _, _⟩ := hv
   exact ⟨b, rfl, hv2, hb⟩
theorem unesc_len (way : Int) (l : List UInt8) : ∀ (k j : Nat) (t : List UInt8), l.length - j <= k -> unescF way l j = .inl t -> t.length <= 4 * (l.length - j)
 | k, j, t, hk, h => by
   by_cases hj : l.length <= j
   · rw [unescF_end hj] at h; cases h; simp
   obtain ⟨v, n, e, hq⟩ : ∃ v n e, atF way l j = ((v, n), e) := ⟨_, _, _, rfl⟩
   by_cases hn : n = 0
   · subst hn; rw [unescF_bad (by omega) hq] at h; cases h
   · rw [unescF_go (by omega) hq hn] at h
     obtain ⟨r, h2, rfl⟩ := putF_inl h
     match k, hk with
     | 0, hk => omega
     | k + 1, hk =>
       have h3 := unesc_len way l k (j + n) r (by omega) h2
       have h4 := byU_len v
       have h5 := (atF_scal hq hn).2
       simp
       omega
theorem ix_gt {l : List UInt8} : ∀ (k i : Nat), l.length - i <= k -> i <= l.length -> Lib.indexByte (l.drop i) 62 = if l.length <= gtF l i then -1 else ((gtF l i : Int) - i)
 | k, i, hk, hi => by
   by_cases h : l.length <= i
   · rw [gtF_end h, if_pos h, List.drop_of_length_le h]; rfl
   rw [List.drop_eq_getElem_cons (by omega)]
   have hg : l.getD i 0 = l[i]'(by omega) := getD_at (by omega)
   unfold Lib.indexByte
   by_cases hc : l.getD i 0 = 62
   · rw [gtF_hit (by omega) hc, <- hg, hc, if_neg (c := l.length <= i) h]; simp
   · rw [<- hg, gtF_go (by omega) hc, beq_eq_false_iff_ne.2 hc]
     match k, hk with
     | 0, hk => omega
     | k + 1, hk =>
       rw [ix_gt k (i + 1) (by omega) (by omega)]
       have hb := gtF_bound l l.length (i + 1) (by omega) (by omega)
       by_cases he : l.length <= gtF l (i + 1)
       · simp [he]
       · rw [if_neg (c := l.length <= gtF l (i + 1)) he]
         have : ((gtF l (i + 1) : Int) - (i + 1 : Nat) == -1) = false := beq_eq_false_iff_ne.2 (by omega)
         rw [this]
         simp
         omega
end Go.Proofs.YtmnigckpejcaeaaGreatDoor
